import Derived.Test.YthpffinbkpnniaaGreatDoorM18
set_option linter.all false
set_option maxRecDepth 100000
namespace Go.Ev.Sy
open Go Go.Ev Go.Proofs
open Tryz
noncomputable section
variable{at_ b1 b2 i:Nat}
def tk0:Tk:=⟨0,0,0,0,0⟩
def dG(ts:List Tk)(i:Nat):Tk:=ts.getD i tk0
def kz(os:aI)(c:Nat):Int:=l8 (λj=>decide ((os.getD j 0:Nat)=c)) 0 os.length
def ciT(ts:List Tk)(i j:Nat):Int:=if j=0 then(dG ts i).i else if j=1 then(dG ts i).c else if j=2 then(dG ts i).n else if j=3 then(dG ts i).s else(dG ts i).p
def s8(ts:List Tk):∀(i:Nat) (h:i<ts.length) (j:Nat),j<5->bI (gz ts) (i*5+j)=Q (ciT ts i j):=by
 induction ts with
 |nil=>grind
 |cons t ts H=>
  intro i h j z;have e:gz (t::ts)=Q t.i::Q t.c::Q t.n::Q t.s::Q t.p::gz ts:=rfl;rw[e];cases i with
  |zero=>rcases(Z:j=0\/j=1\/j=2\/j=3\/j=4) with rfl|rfl|rfl|rfl|rfl<;>rfl
  |succ i=>have N:i<ts.length:=R8;have:=H i N j z;rw[show (i+1)*5+j=i*5+j+1+1+1+1+1 by omega];exact this
section
variable {f:av} {m:Nat} {vm vt:V} {acc:Nat->Acc} {os:aI} {ts:List Tk}
def AO(h:i7 f m 49 5 vt ts.length (gz ts))(F:i<ts.length):∃b o cp mm fz w zs g,vt= .sl b o ts.length cp/\b<m/\f b= .row 49 mm fz w zs (.cf g)/\o+i*5+5<=mm/\g (o+i*5)=Q (dG ts i).i/\g (o+i*5+1)=Q (dG ts i).c/\g (o+i*5+2)=Q (dG ts i).n/\g (o+i*5+3)=Q (dG ts i).s/\g (o+i*5+4)=Q (dG ts i).p:=by obtain⟨b,o,cp,mm,fz,w,zs,g,A,N,M,u,r⟩:=h.at F;have S:=s8 ts i F;exact⟨b,o,cp,mm,fz,w,zs,g,A,N,M,u,(r 0 I).trans (S 0 I),(r 1 I).trans (S 1 I),(r 2 I).trans (S 2 I),(r 3 I).trans (S 3 I),(r 4 I).trans (S 4 I)⟩
def a7b{R:Rt}(v:i7 f m 49 5 vt ts.length (gz ts))(S:at_<ts.length)(hn:ts.length<=4096)(fr i:Int)(l1:b1<m)(l2:b2<m)(A:f b1=(.row 622 4 0 true [.au,.au,.num 0,.num 0] (.cf (bI [vt,vm,Q fr,Q i]))))(N:f b2=(.row 3 1 0 true [.num 0] (.cf (bI [Q at_]))))(x c h r:Int):
  Cl R.Y 505 [.agg [Q x,Q c,Q h,Q r],.ptr b1 0,.ptr b2 0] f m (λu y L=>u= .bool (decide (x=(dG ts at_).c))/\B f m y L):=by
 intro k n E;obtain⟨b,o,F,a,t,w,P,g,rfl,s,H,l,k0,k1,k2,p,z⟩:=AO v S;have d:b1≠m:=Z;have q:b2≠m:=Z;have n3:b≠m:=Z;have M:o+at_*5<a:=Z;have j:o+at_*5+1<a:=Z;have hp:pb (x=((dG ts at_).c:Nat))=decide (x=((dG ts at_).c:Nat)):=by
  by_cases e:x=((dG ts at_).c:Nat)
  .rw [mZ e,dI e]
  .rw [kM e,dB e]
 refine cUx func505 ?_;refine zS ?_;exact E _ _ _ ⟨rfl,(B.w (m2:=m) Qc E1)⟩
def xJ{R:Rt}(h:i7 f m 149 4 vm os.length (fM acc os))(v:i7 f m 49 5 vt ts.length (gz ts))(S:at_<ts.length)(hn:ts.length<=4096)(N:os.length<=64)(fr e:Int):
  Cl R.Y.Y.Y 498 [.agg [vt,vm,Q fr,Q e],Q at_] f m (λu y L=>u=Q (kz os (dG ts at_).c)/\B f m y L):=by
 intro k l E;have g:=λq=>bN h.bC q;have A:=λq=>bN v.bC q;have t:∀q d,V.bt vm q d=q vm:=λq d=>O0;refine cUx func498 ?_;simp only[go_sem,g,t, ↓ag 365];refine aP ?_;intro F a;have x:B f m F (pl m 2):=Wl;refine(nu (h.gr x) Z (ciM acc os) (λi b j z=>tL acc os i b j z) 505 G [.ptr m 0,.ptr (pl m 1) 0] (λj=>decide ((os.getD j 0:Nat)=(dG ts at_).c)) ?_).bu ?_
 .intro i b n r p;refine(a7b ((v.gr x).gr p) S hn fr e (b1:=m) (b2:=pl m 1) (vm:=vm) (by have:=p.le;unfold pl at *;omega) (by have:=p.le;trivial) ((p.ah m W).trans G9) ((p.ah _ W).trans G9) _ _ _ _).mono ?_;rintro u y L ⟨rfl,q⟩;refine⟨?_,q⟩;show V.bool (decide (((os.getD i 0:Nat):Int)=((dG ts at_).c:Nat)))=_;congr 1;grind
 rintro u M C ⟨rfl,o⟩;refine zS ?_;exact E _ _ _ ⟨rfl,x.trans o⟩
end
variable{wt:Int}{y:av}
def CF(ts:List Tk)(i:Nat):Int:=l8 (λj=>decide ((dG ts j).c=(dG ts i).c)) 0 i
def r5F(acc:Nat->Acc)(os:aI)(ts:List Tk)(i:Nat):Bool:=decide (0<i/\(ed acc os (kz os (dG ts i).c).toNat).h=0/\8<=(dG ts 0).p)
section
variable {f:av} {m:Nat} {vm vt:V} {acc:Nat->Acc} {os:aI} {ts:List Tk}
structure Ask(f:av)(m:Nat)(vm vt:V)(acc:Nat->Acc)(os:aI)(ts:List Tk)(fr wt:Int):Prop where
 M:i7 f m 149 4 vm os.length (fM acc os)
 T:i7 f m 49 5 vt ts.length (gz ts)
 cp:∀b o cp,vt= .sl b o ts.length cp->∃mm,IC cp ts.length o 5 mm
 n:ts.length<=4096
 o:os.length<=64
 nd:os.Nodup
 R:∀i,i<os.length->qk (ed acc os i)
 t:∀i,i<ts.length->1<=(dG ts i).n
 b:0<=fr/\0<=wt/\fr+wt<=1048576
@[grind →] theorem Ask.gr{fr:Int}(h:Ask f m vm vt acc os ts fr wt){L:Nat}(q:B f m y L):Ask y L vm vt acc os ts fr wt:=⟨h.M.gr q,h.T.gr q,h.cp,h.n,h.o,h.nd,h.R,h.t,h.b⟩
variable {fr wt:Int}
def ags{R:Rt}(H:Ask f m vm vt acc os ts fr wt)(F:i<ts.length):
  Cl R.Y 496 [.agg [vt,vm,Q fr,Q wt],Q i] f m (λu y L=>u= .bool false/\B f m y L):=by
 intro k c E;have P:=λq=>H.T.jD (by have:=H.n;omega) q;have t:∀q d,V.bt vt q d=q vt:=λq d=>Q6;have c1:¬(i:Int)<0:=Z;have c2:¬(ts.length:Int)<=i:=Z;refine cUx func496 ?_;refine zS ?_;exact E _ _ _ ⟨rfl,(B.w (m2:=m) Qc E1)⟩
def agr{R:Rt}(H:Ask f m vm vt acc os ts fr wt)(a:i<ts.length):
  Cl R.Y.Y.Y.Y 497 [.agg [vt,vm,Q fr,Q wt],Q i] f m (λu y L=>u= .bool (decide (kz os (dG ts i).c<0))/\B f m y L):=by
 intro k b E;have t:∀q d,V.bt vt q d=q vt:=λq d=>Q6;have N:∀q d,V.bt vm q d=q vm:=λq d=>X0;refine cUx func497 ?_;simp only[go_sem,t,N, ↓ag 498];refine aP ?_;intro F j;have x:B f m F (pl m 1):=Vv;apply(xJ (H.M.gr x) (H.T.gr x) a H.n H.o fr wt).bu;rintro u r l ⟨rfl,P⟩;have hp:pb (kz os (dG ts i).c<0)=decide (kz os (dG ts i).c<0):=by
  by_cases e:kz os (dG ts i).c<0
  .rw [mZ e,dI e]
  .rw [kM e,dB e]
 refine zS ?_;exact E _ _ _ ⟨rfl,x.trans P⟩
def agq{R:Rt}(H:Ask f m vm vt acc os ts fr wt)(hi:i<ts.length):
  Cl R.Y.Y.Y.Y 499 [.agg [vt,vm,Q fr,Q wt],Q i] f m (λu y L=>u= .bool (decide (0<=CF ts i))/\B f m y L):=by
 intro k aEY E;have hv3:∀q d,V.bt vt q d=q vt:=λq d=>Q6;obtain⟨b,o,S,mm,fz,w,zs,g,t,hb,hf,nz,k0,k1,s,k3,k4⟩:=AO H.T hi;obtain⟨mc,hcp⟩:=H.cp b o S t;have v:=H.T;have hn:=H.n;subst t;have cut:=λq=>As (b:=b) (q:=q) hcp (show i<=ts.length by omega);refine cUx func499 ?_;simp only[go_sem, ↓cut, ↓ag 501];refine aP ?_;intro F hF;have x:B f m F (pl m 2):=Vy;have Hz:i7 F (pl m 2) 49 5 (.sl b o i S) i ((gz ts).take (i*5)):=by
  rcases v.gr x with⟨e,_⟩|⟨b',o',cp',A,a,l,zs',P,e,N,M,h4,h5,h6,h7⟩
  .cases e
  .cases e;exact .inr ⟨b,o,S,A,a,l,zs',P,rfl,N,M,W,Z,λj z=>by rw[h6 j Z,dH Z,dH W,ux],W⟩
 have hC:Cl R.Y.Y.Y 501 [.sl b o i S,.fn 500 [] [.ptr m 0,.ptr (pl m 1) 0]] F (pl m 2) (λu y L=>u= .bool (decide (0<=CF ts i))/\B F (pl m 2) y L):=by
  intro k aEY E;refine cUx func501 ?_;simp only[go_sem, ↓ag 506];refine(Hu Hz Z (ciT ts) (λj z q hq=>?_) 500 G [.ptr m 0,.ptr (pl m 1) 0] (λj=>decide ((dG ts j).c=(dG ts i).c)) ?_).bu ?_
  .have hl:=v.cells;rw[dH W,ux,←dH Z];exact s8 ts j Z q hq
  .intro j z F2 M2 p s K2 h;obtain⟨b',o',cp',A,a,l,zs',P,ee',hb',hf',YI,k0',k1',k2',k3',k4'⟩:=AO ((v.gr x).gr p) hi;cases ee';have a1:F2 m=(.row 622 4 0 true [.au,.au,.num 0,.num 0] (.cf (bI [.sl b o ts.length S,vm,Q fr,Q wt]))):=(p.ah m W).trans O7;have a2:F2 (pl m 1)=(.row 3 1 0 true [.num 0] (.cf (bI [Q i]))):=(p.ah _ W).trans O7;have lM:=p.le;have n1:m≠M2:=W;have n2:pl m 1≠M2:=W;have n3:b≠M2:=Z;have c5:o+i*5<A:=Z;have c6:o+i*5+1<A:=Z;have hp:pb (((dG ts j).c:Int)=((dG ts i).c:Nat))=decide ((dG ts j).c=(dG ts i).c):=by
    by_cases e:(dG ts j).c=(dG ts i).c
    .rw [mZ Z,dI e]
    .rw [kM Z,dB e]
   show R.Y.call _ [.agg [Q (ciT ts j 0),Q ((dG ts j).c:Nat),Q (ciT ts j 2),Q (ciT ts j 3),Q (ciT ts j 4)],.ptr m 0,.ptr (pl m 1) 0] _ _=_;refine cUx func500 ?_;refine zS ?_;exact h _ _ _ ⟨rfl,(B.w (m2:=M2) Qc E1)⟩
  rintro u r m1 ⟨rfl,q1⟩;have hp:pb (0<=CF ts i)=decide (0<=CF ts i):=by
   by_cases e:0<=CF ts i
   .rw [mZ e,dI e]
   .rw [kM e,dB e]
  unfold CF at hp E;refine zS ?_;exact W
 refine hC.bu ?_;rintro u r m1 ⟨rfl,q1⟩;refine zS ?_;exact E _ _ _ ⟨rfl,x.trans q1⟩
end
variable{h:Heap}{M m te:Nat}{F f:av}
section
variable {f:av} {m:Nat} {vm vt:V} {acc:Nat->Acc} {os:aI} {ts:List Tk} {fr wt:Int}
def agp{R:Rt}(H:Ask f m vm vt acc os ts fr wt)(hi:i<ts.length):
  Cl R.Y.Y.Y.Y.Y.Y.Y.Y.Y.Y.Y 502 [.agg [vt,vm,Q fr,Q wt],Q i] f m (λu y m'=>u= .bool (!Hl acc os fr wt (kz os (dG ts i).c) (dG ts i).n)/\B f m y m'):=by
 intro k aEY E;have hv3:∀q d,V.bt vt q d=q vt:=λq d=>Q6;have N:∀q d,V.bt vm q d=q vm:=λq d=>X0;have Ul:=λq=>bN H.M.bC q;obtain⟨b,o,S,a,fz,w,zs,g,ee,hb,hf,nz,k0,v,s,p,z⟩:=AO H.T hi;have n1:b≠m:=Z;have c5:o+i*5<a:=Z;have j:o+i*5+2<a:=Z;subst ee;refine cUx func502 ?_;simp only[go_sem,hv3,N,hi,hf,n1,j,s, ↓ag 498];refine aP ?_;intro F hF;have x:B f m F (pl m 1):=Vw;apply(xJ (H.M.gr x) (H.T.gr x) hi H.n H.o fr wt).bu;rintro u f1 m1 ⟨rfl,P⟩;have e1:=(P.ah b W).trans ((x.ah b hb).trans hf);have e0:f1 m=(.row 622 4 0 true [.au,.au,.num 0,.num 0] (.cf (bI [.sl b o ts.length S,vm,Q fr,Q wt]))):=(P.ah m W).trans O7;have l:∀(r:iR) (R:Rt) (L:List D) (e:Env) (h:Heap) (k:cF),tR vm vm r R L e h k=r.run R L e h k:=by
  intro r R L e h k;rcases H.M with⟨rfl,_⟩|⟨_,_,_,_,_,_,_,_,rfl,_⟩
  .trivial
  .exact a1r ..
 simp only[go_sem,e0,e1,N,l,Ul,s,j, ↓ag 503];have A:=(H.gr x).gr P;apply(a5E A.M H.o H.nd H.R fr wt (kz os (dG ts i).c) ((dG ts i).n:Nat) H.b (by have:=H.t i hi;omega)).bu;rintro u f2 C ⟨rfl,q2⟩;refine zS ?_;exact E _ _ _ ⟨by cases Hl acc os fr wt (kz os (dG ts i).c) (dG ts i).n<;>rfl,(x.trans P).trans q2⟩
def ago{R:Rt}(H:Ask f m vm vt acc os ts fr wt)(hi:i<ts.length)(h0:0<=kz os (dG ts i).c):
  Cl R.Y.Y.Y.Y 504 [.agg [vt,vm,Q fr,Q wt],Q i] f m (λu y L=>u= .bool (r5F acc os ts i)/\B f m y L):=by
 intro k aEY E;have hv3:∀q d,V.bt vt q d=q vt:=λq d=>Q6;have N:∀q d,V.bt vm q d=q vm:=λq d=>X0;have Ul:=λq=>bN H.M.bC q;by_cases c1:0<i
 case neg=>have c1':¬(0:Int)<(i:Int):=Z;refine cUx func504 ?_;refine zS ?_;exact E _ _ _ ⟨by unfold r5F;grind,(B.w (m2:=m) Qc E1)⟩
 have c1':(0:Int)<(i:Int):=Z;obtain⟨b,o,S,a,fz,w,zs,g,t,s,hf,nz,k0,v,k2,k3,z⟩:=AO H.T (show 0<ts.length by omega);refine cUx func504 ?_;simp only[go_sem,hv3,N,c1', ↓ag 498];refine aP ?_;intro F hF;have x:B f m F (pl m 1):=Wj;apply(xJ (H.M.gr x) (H.T.gr x) hi H.n H.o fr wt).bu;rintro u r m1 ⟨rfl,P⟩;have e1:=(P.ah b W).trans ((x.ah b s).trans hf);have e0:r m=(.row 622 4 0 true [.au,.au,.num 0,.num 0] (.cf (bI [vt,vm,Q fr,Q wt]))):=(P.ah m W).trans O7;have A:(kz os (dG ts i).c).toNat<os.length:=by
  unfold kz at h0 ⊢;rcases iZ (λj=>decide ((os.getD j 0:Nat)=(dG ts i).c)) 0 os.length with⟨h,_⟩|⟨j,h,h2,_⟩
  .omega
  .rename_i hh;have:=h;omega
 obtain⟨j,hj⟩:∃j:Nat,kz os (dG ts i).c=j:=⟨_,(uJ h0).symm⟩;have ej:r5F acc os ts i=decide (0<i/\(ed acc os j).h=0/\8<=(dG ts 0).p):=by unfold r5F;rw[hj,iI]
 rw[ej] at E;rw[hj] at A ⊢;rw[iI] at A;obtain⟨b',o',cp',mm',fz',w',zs',g',ee',hb',hf',YI,l0,l1,l2,l3⟩:=xY H.M A;have e2:=(P.ah b' W).trans ((x.ah b' hb').trans hf');have c5:o+0*5<a:=Z;have c6:o+0*5+4<a:=Z;have c5':o<a:=Z;have c6':o+4<a:=Z;have c7:o'+j*4<mm':=Z;have c8:o'+j*4+1<mm':=Z;have l:o'+j*4+2<mm':=Z;have k4':g (o+4)=Q (dG ts 0).p:=by rw[qp] at z;exact z
 have hl0:0<ts.length:=Z;have l2':g' (o'+j*4+1+1)=Q (ed acc os j).h:=l2;have c9':o'+j*4+1+1<mm':=Z;subst t;subst ee';by_cases c2:(ed acc os j).h=0
 case neg=>refine zS ?_;exact E _ _ _ ⟨W,x.trans P⟩
 obtain⟨d,hd⟩:∃d,d=decide (0<i/\(ed acc os j).h=0/\8<=(dG ts 0).p):=W;rw[←hd] at E;have hp:pb ((8:Int)<=((dG ts 0).p:Nat))=d:=by
  rw[hd];by_cases e:8<=(dG ts 0).p
  .rw [mZ Z,dI G]
  .rw [kM Z,dB Z]
 simp only[go_sem,e0,A,e1,e2,l2,l,c2,hl0,c6,z,hp];exact E _ _ _ ⟨rfl,x.trans P⟩
def acv{f:Nat}{a:Code}{R:Rt}{rd:Nat}{ds:List D}{e:Env}{j:X->cF}{T:Bool}(s:Lj f a R rd ds e h j (999994+1+1+1+1+1+1)=T):Lj f a R rd ds e h j iq=T:=s
def uV{fn:Nat}{a:Code}{R:Rt}{rd:Nat}{ds:List D}{e:Env}{j:X->cF}{n:Nat}{T:Bool}(h:∀i,i=F->Lj fn a R rd ds e (.fn i M) j n=T):Lj fn a R rd ds e (.fn F M) j n=T:=W
def ND(acc:Nat->Acc)(os:aI)(ts:List Tk)(fr wt:Int)(i:Nat):Bool:=decide (0<=kz os (dG ts i).c)&&(!decide (0<=CF ts i)&&(Hl acc os fr wt (kz os (dG ts i).c) (dG ts i).n&& !r5F acc os ts i))
def bV{z n:Nat}{v:V}{cs:ay}(h:i7 f m te z v n cs):(∀q,V.live v q=q v)/\(∀q d,V.bt v q d=q v)/\(∀q,V.one v q=q v)/\(∀q,V.cells v q=q [v]):=by rcases h with⟨rfl,_⟩|⟨_,_,_,_,_,_,_,_,rfl,_⟩<;>exact⟨λ_=>rfl,λ_ _=>rfl,λ_=>rfl,λ_=>rfl⟩
def abt{R:Rt}(H:Ask f m vm vt acc os ts fr wt)(hi:i<ts.length):
  Cl R.Y.Y.Y.Y.Y.Y.Y.Y.Y.Y.Y.Y 464 [vt,Q i,Q fr,Q wt,vm] f m (λu y L=>(∃w:Int,u=Q w/\(w=0↔ND acc os ts fr wt i=true))/\B f m y L):=by
 intro k aEY E;obtain⟨t1,t2,t3,t4⟩:=bV H.T;obtain⟨v1,v2,v3,v4⟩:=bV H.M;have A:∀(w:Int) y L,(w=0↔ND acc os ts fr wt i=true)->B f m y L->k (Q w) (.fn y L)=aEY:=W;have hr:∀(R:Rt) (F:av) (M:Nat) (k:cR),R.Y.call 493 [] (.fn F M) k=k (.sl M 0 5 (.known 5)) (.fn (bw F M (.row 627 10 0 true [.num 0,.fN] (.cf (bI [Q 1,.fn 496 [] [],Q 2,.fn 497 [] [],Q 3,.fn 499 [] [],Q 4,.fn 502 [] [],Q 5,.fn 504 [] []])))) (pl M 1)):=by intro R F M k;refine cUx func493 ?_;exact zC
 have e1:IntKind.i64.wrap (0+1)=1:=I;have b:IntKind.i64.wrap (1+1)=2:=I;have e3:IntKind.i64.wrap (2+1)=3:=I;have e4:IntKind.i64.wrap (3+1)=4:=I;have e5:IntKind.i64.wrap (4+1)=5:=I;refine cUx func464 ?_;refine zS ?_;refine uV ?_;intro F j;have x:B f m F (pl m 2):=Vu;have h:F m=(.row 622 4 0 true [.au,.au,.num 0,.num 0] (.cf (laid 0 [vt,vm,Q fr,Q wt] (zf [.au,.au,.num 0,.num 0])))):=Q0;have t:F (pl m 1)=(.row 627 10 0 true [.num 0,.fN] (.cf (bI [Q 1,.fn 496 [] [],Q 2,.fn 497 [] [],Q 3,.fn 499 [] [],Q 4,.fn 502 [] [],Q 5,.fn 504 [] []]))):=J3;have g0:B F (pl m 2) F (pl m 2):=B.refl _ _;refine acv ?_;refine fD _ ?_;unfold iB;simp only[go_sem,t2,v2,h,t, ↓ag 496];refine aP ?_;intro F1 IN;have p1:B F (pl m 2) F1 (pl (pl m 2) 1):=by rw[IN];exact(B.w (m2:=(pl m 2)) Qe E1)
 refine(ags (((H.gr x).gr g0).gr p1) hi).bu ?_;rintro u r l ⟨rfl,r1⟩;have g1:=(g0.trans p1).trans r1;simp only[go_sem];have x2:=(g1.ah m W).trans h;have y2:=(g1.ah (pl m 1) W).trans t;have l2:=g1.le;have n2:m≠l:=W;refine fD _ ?_;unfold iB;simp only[go_sem,t2,v2,x2,y2,n2,e1, ↓ag 497];refine aP ?_;intro F2 xo;have p2:B r l F2 (pl l 1):=Wd;refine(agr (((H.gr x).gr g1).gr p2) hi).bu ?_;rintro u d C ⟨rfl,r2⟩;have z:=(g1.trans p2).trans r2;by_cases c2:kz os (dG ts i).c<0
 .have d2:decide (kz os (dG ts i).c<0)=true:=W;have w2:d l=_:=(r2.ah l W).trans ((congrFun xo _).trans (aK ..));simp only[go_sem,d2,w2];exact A _ _ _ L8 (x.trans z)
 have d2:decide (kz os (dG ts i).c<0)=false:=W;simp only[go_sem,d2];have S:=(z.ah m W).trans h;have y3:=(z.ah (pl m 1) W).trans t;have l3:=z.le;have n3:m≠C:=W;refine fD _ ?_;unfold iB;simp only[go_sem,t2,v2,S,y3,n3,b, ↓ag 499];refine aP ?_;intro F3 tW;have p3:B d C F3 (pl C 1):=We;refine(agq (((H.gr x).gr z).gr p3) hi).bu ?_;rintro u N s ⟨rfl,r3⟩;have o:=(z.trans p3).trans r3;by_cases c3:0<=CF ts i
 .have d3:decide (0<=CF ts i)=true:=W;have w3:N C=_:=(r3.ah C W).trans ((congrFun tW _).trans (aK ..));simp only[go_sem,d3,w3];exact A _ _ _ L8 (x.trans o)
 have d3:decide (0<=CF ts i)=false:=W;simp only[go_sem,d3];have x4:=(o.ah m W).trans h;have y4:=(o.ah (pl m 1) W).trans t;have l4:=o.le;have n4:m≠s:=W;refine fD _ ?_;unfold iB;simp only[go_sem,t2,v2,x4,y4,n4,e3, ↓ag 502];refine aP ?_;intro e P;have p4:B N s e (pl s 1):=by rw[P];exact(B.w (m2:=s) Qc E1)
 refine(agp (((H.gr x).gr o).gr p4) hi).bu ?_;rintro u g v ⟨rfl,r4⟩;have q:=(o.trans p4).trans r4;cases c4:Hl acc os fr wt (kz os (dG ts i).c) (dG ts i).n
 .have w4:g s=_:=(r4.ah s W).trans ((congrFun P _).trans (aK ..));simp only[go_sem,Bool.not_false,w4];exact A _ _ _ L8 (x.trans q)
 simp only[go_sem,Bool.not_true];have x5:=(q.ah m W).trans h;have y5:=(q.ah (pl m 1) W).trans t;have l5:=q.le;have n5:m≠v:=W;refine fD _ ?_;unfold iB;simp only[go_sem,t2,v2,x5,y5,n5,e4, ↓ag 504];refine aP ?_;intro F5 a;have p5:B g v F5 (pl v 1):=by rw[a];exact(B.w (m2:=v) Qc E1)
 refine(ago (((H.gr x).gr q).gr p5) hi Z).bu ?_;rintro u p m5 ⟨rfl,r5⟩;have g5:=(q.trans p5).trans r5;cases c5:r5F acc os ts i
 case true=>have w5:p v=_:=(r5.ah v W).trans ((congrFun a _).trans (aK ..));refine zS ?_;exact A _ _ _ L8 (x.trans g5)
 refine zS ?_;refine fD _ ?_;unfold iB;refine zS ?_;exact A _ _ _ L8 (x.trans g5)
def abu{R:Rt}(H:Ask f m vm vt acc os ts fr wt)(F:i<ts.length):
  Cl R.Y.Y.Y.Y.Y.Y.Y.Y.Y.Y.Y.Y.Y 428 [vt,Q i,Q fr,Q wt,vm] f m (λu y L=>u= .bool (ND acc os ts fr wt i)/\B f m y L):=by
 intro k a E;obtain⟨t1,t2,t3,t4⟩:=bV H.T;obtain⟨v1,z,A,v4⟩:=bV H.M;refine cUx func428 ?_;simp only[go_sem,t1,v1, ↓ag 464];apply(abt H F).bu;rintro u r b ⟨⟨w,rfl,l⟩,P⟩;have hp:pb (w=0)=ND acc os ts fr wt i:=by
  cases c:ND acc os ts fr wt i
  .exact kM W
  .exact mZ W
 simp only[go_sem,hp];grind
def oy(acc:Nat->Acc)(os:aI)(ts:List Tk)(fr wt:Int):Int:=l8 (ND acc os ts fr wt) 0 ts.length
def a7c{R:Rt}(H:Ask f m vm vt acc os ts fr wt):
  Cl R.Y.Y.Y.Y.Y.Y.Y.Y.Y.Y.Y.Y.Y.Y 384 [vt,Q fr,Q wt,vm] f m (λu y L=>u=Q (oy acc os ts fr wt)/\B f m y L):=by
 intro k c hk;obtain⟨t1,t2,t3,t4⟩:=bV H.T;obtain⟨v1,v2,v3,v4⟩:=bV H.M;have g:=H.n;have P:=λq=>H.T.jD Z q;refine cUx func384 ?_;refine zS ?_;refine kW (n:=ts.length+1) (aF0:=λr e y M=>∃i:Nat,i+r=ts.length+1/\1<=r/\(∀j,j<i->ND acc os ts fr wt j=false)/\B f m y M/\(eg 0).get e=vt/\(eg 1).get e=Q fr/\(eg 2).get e=Q wt/\(eg 3).get e=vm/\(eg 11).get e=Q ts.length/\(eg 12).get e=Q i) (E:=λx e y M=>B f m y M/\(x= .exit 0/\oy acc os ts fr wt= -1\/x= .ret/\(eg 8).get e=Q (oy acc os ts fr wt)))
  ⟨0,Z,Z,Z,B.refl _ _,E6,E6,E6,E6,E6,E6⟩ (by show _<iq;unfold iq;omega) ?_ ?_
 .rintro r e f1 l ⟨i,v,t,Dp,q,s,z1,z2,w,z4,z5⟩ kr kx hkr a;unfold iB;by_cases F:i<ts.length
  case neg=>
   have b:¬((i:Int)<ts.length):=Z;refine zS ?_;refine a _ _ _ _ ⟨q,.inl ⟨rfl,?_⟩⟩;unfold oy;rcases iZ (ND acc os ts fr wt) 0 ts.length with⟨h,_⟩|⟨j,A,N,h3,_⟩
   .exact h
   grind
  have b:(i:Int)<ts.length:=Z;simp only[go_sem,s,z1,z2,w,z4,z5,b,t1,v1, ↓ag 428];apply(abu (H.gr q) F).bu;rintro u d C ⟨rfl,o⟩;cases p:ND acc os ts fr wt i with
  |true=>
   refine zS ?_;refine a _ _ _ _ ⟨q.trans o,.inr ⟨rfl,?_⟩⟩;have S:oy acc os ts fr wt=i:=by
    unfold oy;rcases iZ (ND acc os ts fr wt) 0 ts.length with⟨_,h⟩|⟨j,A,N,h3,h4,h5⟩
    .grind
    .grind
   rw[S];exact zC
  |false=>have ew:IntKind.i64.wrap ((i:Int)+1)=((i+1:Nat):Int):=Qf;refine zS ?_;refine hkr (r-1) _ _ _ Z ⟨i+1,Z,Z,λj z=>?_,q.trans o,E6,E6,E6,E6,E6,E6⟩;grind
 .rintro x e f1 l ⟨q,⟨rfl,g⟩|⟨rfl,g⟩⟩
  .rw [g] at hk;simp only[go_sem];grind
  .simp only[go_sem,g];grind
end
variable{os:aI}{zs:ay}{g:dA}
def TkG(g:dA)(ts:List Tk):Prop:=∀j,j<ts.length->∀q,q<5->g (j*5+q)=Q (ciT ts j q)
def MmG(g:dA)(acc:Nat->Acc)(os:aI):Prop:=∀j,j<os.length->∀q,q<4->g (j*4+q)=Q (ciM acc os j q)
def SV(ts:List Tk):∀u∈gz ts,u≠ .undef:=by intro u L;obtain⟨t,_,h⟩:=xr.1 L;unfold Tk.cs at h;simp only[fY,lG,or_false] at h;rcases h with rfl|rfl|rfl|rfl|rfl<;>exact iW _
def KW(acc:Nat->Acc)(os):∀u∈fM acc os,u≠ .undef:=by intro u L;obtain⟨t,o,rfl⟩:=jm L;rw[←dH o];rw[nK] at o;obtain⟨p,q,rfl,N⟩:∃p q,t=p*4+q/\q<4:=⟨t/4,t%4,Z,Z⟩;rw[lP _ os p Z q N];exact iW _
def TkG.uf{b N:Nat}{cp:Cp}{w:Bool}{ts:List Tk}(h:TkG g ts)(s:b<m)(hf:f b= .row 49 (N*5) 0 w zs (.cf g))(hn:ts.length<=N):i7 f m 49 5 (.sl b 0 ts.length cp) ts.length (gz ts):=by refine .inr ⟨b,0,cp,N*5,0,w,zs,g,rfl,s,hf,vQ ts,Z,λj z=>?_,SV ts⟩;obtain⟨p,q,rfl,a⟩:∃p q,j=p*5+q/\q<5:=⟨j/5,j%5,Z,Z⟩;rw[dz,h p Z q a,s8 ts p Z q a]
def MmG.uf{b:Nat}{cp:Cp}{w:Bool}{acc:Nat->Acc}(h:MmG g acc os)(s:b<m)(hf:f b= .row 149 (os.length*4) 0 w zs (.cf g)):i7 f m 149 4 (.sl b 0 os.length cp) os.length (fM acc os):=by refine .inr ⟨b,0,cp,os.length*4,0,w,zs,g,rfl,s,hf,nK acc os,Z,λj z=>?_,KW acc os⟩;obtain⟨p,q,rfl,N⟩:∃p q,j=p*4+q/\q<4:=⟨j/4,j%4,Z,Z⟩;rw[dz,h p Z q N,tL acc os p Z q N]
section
variable {f:av} {m:Nat} {vm vt:V} {acc:Nat->Acc} {os:aI} {ts:List Tk}
def YT{R:Rt}(v:i7 f m 49 5 vt ts.length (gz ts))(h:i7 f m 149 4 vm os.length (fM acc os))(hn:ts.length<=4096)(ho:os.length<=64)(fr:Int):
  Cl R.Y 328 [vt,vm,Q fr] f m (λu y L=>(∃b p x l,u= .agg [.au,.sl b 0 ts.length (.known ts.length),.sl p 0 os.length (.known os.length),Q fr]/\m<=b/\b<L/\m<=p/\p<L/\b≠p/\y b=(.row 49 (ts.length*5) 0 true [.num 0,.num 0,.num 0,.num 0,.num 0] (.cf x))/\TkG x ts/\(∀j,j<ts.length*5->x j≠ .undef)/\y p=(.row 149 (os.length*4) 0 true [.num 0,.num 0,.num 0,.num 0] (.cf l))/\MmG l acc os/\(∀j,j<os.length*4->l j≠ .undef))/\B f m y L):=by
 intro k c E;obtain⟨t1,t2,t3,t4⟩:=bV v;obtain⟨v1,v2,A,v4⟩:=bV h;have P:=λq=>v.jD Z q;have s:=λq=>h.jD Z q;have d0:(0:Int)<=(os.length:Nat):=Z;have d1:os.length<=4294967296:=Z;have d2:32*os.length<=281474976710656:=Z;have d5:os.length<=9223372036854775807:=Z;have c0:(0:Int)<=(ts.length:Nat):=Z;have c1:ts.length<=4294967296:=Z;have c2:40*ts.length<=281474976710656:=Z;have c5:ts.length<=9223372036854775807:=Z;refine cUx func328 ?_;refine zS ?_;refine Ii ?_;intro F S;have M:B f m F (pl m 4):=by rw[S];exact(B.w (m2:=m) Qd E1)
 have a0:F m=(.row 437 4 0 true [.au,.au,.au,.num 0] (.cf (zf [.au,.au,.au,.num 0]))):=N9;have t:F (pl m 1)=(.row 49 (ts.length*5) 0 true [.num 0,.num 0,.num 0,.num 0,.num 0] (.cf (zf [.num 0,.num 0,.num 0,.num 0,.num 0]))):=N9;have i:F (pl m 2)=(.row 149 (os.length*4) 0 true [.num 0,.num 0,.num 0,.num 0] (.cf (zf [.num 0,.num 0,.num 0,.num 0]))):=N9;have n:F (pl m 3)=(.row 437 4 0 true [.au,.au,.au,.num 0] (.cf (laid 0 [.au,.sl (pl m 1) 0 ts.length (.known ts.length),.sl (pl m 2) 0 os.length (.known os.length),Q fr] (zf [.au,.au,.au,.num 0])))):=by rw[S];exact aK ..
 refine Ij t (v.gr M) Z Z ?_;intro u;simp only[go_sem,n];refine Ii ?_;intro F2 g;have a:B f m F2 (pl m 4):=by rw[g];exact M.bw W
 have o:=(congrFun g m).trans ((aE W _ _).trans a0);have H:=(congrFun g (pl m 1)).trans (aK ..);have d:=(congrFun g (pl m 2)).trans ((aE W _ _).trans i);have r:=(congrFun g (pl m 3)).trans ((aE W _ _).trans n);refine Ij d (h.gr a) Z Z ?_;intro u;simp only[go_sem,r,o];refine fG ?_;intro aEZ e;refine E _ _ _ ⟨⟨pl m 1,pl m 2,laid 0 (gz ts) (zf [.num 0,.num 0,.num 0,.num 0,.num 0]),laid 0 (fM acc os) (zf [.num 0,.num 0,.num 0,.num 0]),rfl,W,W,W,W,W,?_,?_,?_,?_,?_,?_⟩,?_⟩
 .rw [e];exact(aE W _ _).trans ((aE W _ _).trans H)
 .intro j z q N;rw[du Z Xj,j7,s8 ts j z q N]
 .intro j z;rw[du Z Xj];exact pz (SV ts) Xj
 .rw [e];exact(aE W _ _).trans (aK ..)
 .intro j z q N;rw[du Z Ju,j7,tL acc os j z q N]
 .intro j z;rw[du Z Ju];exact pz (KW acc os) Ju
 .rw [e];exact(a.bw W).bw Z
end
variable{jE mm n' p:Nat}{lT:ay}
section
variable {f:av} {m:Nat}
def ae7{o n z:Nat}{a:ay}{w:Bool}(hf:f i= .row te mm 0 w zs (.cf g))(A:n+n'<=p)(N:o+p*z<=mm)(hl:lT.length=n'*z)(k):
  gp te z jE a (.sl i o n (.known p)) n' lT (.fn f m) k=k (.sl i o (n+n') (.known p)) (.fn (bw f i (.row te mm 0 w zs (.cf (laid (o+n*z) lT g)))) m):=by
 show O.eO (f i) _=_;rw[hf];show aR (Nat.ble (n+n') p) (eI i (o+n*z) lT (.fn f m) _) _=_;rw[cw A,kC];show O.eO (f i) _=_;rw[hf];have C:(n+n')*z=n*z+n'*z:=W;have l:=nW z A;show aR (Nat.ble (o+n*z+eK lT) mm) _ false=_;rw[dx,hl,cw Z];show aR (Nat.ble 0 (o+n*z)) _ false=_;rw[cw Z,gM];rfl
def RR{R:Rt}{N n b:Nat}(s:b<m)(hf:f b=(.row 49 (N*5) 0 true [.num 0,.num 0,.num 0,.num 0,.num 0] (.cf g)))(hn:n<=N)(H:N<=4096)(F:i<n)(hu:∀j,j<N*5->g j≠ .undef):
  Cl R.Y 429 [.sl b 0 n (.known N),Q i,Q ((i:Int)+1)] f m (λu y L=>u= .sl b 0 (n-1) (.known N)/\L=m/\∃P,y=bw f b (.row 49 (N*5) 0 true [.num 0,.num 0,.num 0,.num 0,.num 0] (.cf (P)))/\(∀j,j<n-1->∀q,q<5->P (j*5+q)=if j<i then g (j*5+q) else g ((j+1)*5+q))/\∀j,j<N*5->P j≠ .undef):=by
 intro k c E;have c1:¬(i:Int)=(i:Int)+1:=Z;have c2:n<=9223372036854775807:=Z;have c3:(0:Int)<=(i:Int):=Z;have c4:(0:Int)<=(i:Int)+1:=Z;have M:((i:Int)+1).toNat=i+1:=Z;have w:i<=i+1:=Z;have o:i+1<=n:=Z;have t:i<=n:=Z;have l:i<=N:=Z;have v:i+1<=N:=Z;refine cUx func429 ?_;refine zS ?_;have A:rz N (i+1) 0 5+(n-(i+1))*5<=N*5:=by
  by_cases e:N=i+1
  .unfold rz;grind
  .rw [ry e];omega
 have a:∀j,j<(n-(i+1))*5->g (rz N (i+1) 0 5+j)≠ .undef:=W;have r:((List.range' (rz N (i+1) 0 5) ((n-(i+1))*5)).map g).length=(n-(i+1))*5:=J1;have S:i+(n-(i+1))=n-1:=Z;rw[gP A,gV a,j7,j7,ae7 hf Z Z r,S,dz];have d1:n-1<=n:=Z;have d2:n-1<=9223372036854775807:=Z;have d3:(0:Int)<=((n-1:Nat):Int):=Z;have d4:n-1<=N:=Z;have d5:n-(n-1)=1:=Z;have d6:rz N (n-1) 0 5=(n-1)*5:=by rw[ry Z,dz]
 have d7:(n-1)*5+5<=N*5:=Z;have d:py [.num 0,.num 0,.num 0,.num 0,.num 0] (1*5)= [.num 0,.num 0,.num 0,.num 0,.num 0]:=rfl;have p:py [.num 0,.num 0,.num 0,.num 0,.num 0] 5= [.num 0,.num 0,.num 0,.num 0,.num 0]:=rfl;refine zS ?_;rw[zL];have C:∀j,j<5->bI [V.num 0,.num 0,.num 0,.num 0,.num 0] j≠ .undef:=λj z=>by rcases(Z:j=0\/j=1\/j=2\/j=3\/j=4) with rfl|rfl|rfl|rfl|rfl<;>exact λh=>Q8
 refine E _ _ _ ⟨rfl,rfl,_,rfl,?_,?_⟩
 .intro j z q hq;rw[dL Z];by_cases h:j<i
  .rw [ao h,dL Z]
  .rw [aj h,du Z Z,k9 _ _ W];congr 1;rw[AD,ry Z];omega
 .intro j z;by_cases h:(n-1)*5<=j/\j<(n-1)*5+5
  .rw [du h.1 W];grind
  .rw [dL h];by_cases x:i*5<=j/\j<i*5+(n-(i+1))*5
   .rw [du Z Z,k9 _ _ W,AD];grind
   .rw [dL Z];grind
end
variable{j:Nat}
structure Rs where
 gr:List Tk
 lf:List Tk
 acc:Nat->Acc
 fr:Int
def jY(t:Tk):Tk:=if t.p<1099511627776 then⟨t.i,t.c,t.n,t.s,t.p+1⟩ else t
def uc(a:List Tk)(j:Nat):List Tk:=(a.take j).map jY++a.drop j
def Ue(a:List Tk)(i:Nat):List Tk:=(a.take i).map jY++a.drop (i+1)
def HI(t:Tk):Tk:=⟨t.i,t.c,t.n,2,t.p⟩
def mP(os:aI)(r:Rs)(i:Nat):Rs:=⟨r.gr++ [HI (dG r.lf i)],Ue r.lf i,xe r.acc os (kz os (dG r.lf i).c).toNat (dG r.lf i).n,r.fr-(dG r.lf i).n⟩
def Er(a:List Tk)(j:Nat)(z:j<=a.length):(uc a j).length=a.length:=by unfold uc;grind
def qI{F:List Tk}(h:i<F.length):dG F i=F[i]:=by unfold dG;grind
def sq(a:List Tk)(j q:Nat)(z:j<=a.length)(N:q<a.length):dG (uc a j) q=if q<j then jY (dG a q) else dG a q:=by rw[qI (by rw[Er a j z];trivial),qI N];unfold uc;grind
def tF(a:List Tk)(i:Nat)(F:i<a.length):(Ue a i).length=a.length-1:=by unfold Ue;grind
def a3G(a:List Tk)(i q:Nat)(F:i<a.length)(N:q<a.length-1):dG (Ue a i) q=if q<i then jY (dG a q) else dG a (q+1):=by
 rw[qI (by rw[tF a i F];trivial)];unfold Ue;by_cases h:q<i
 .rw [ao h,FT W,qI Z];simp
 .rw [aj h,List.getElem_append_right W,qI Z];grind
def Im(F d:List Tk)(i j:Nat)(h:dG F i=dG d j)(q:Nat):ciT F i q=ciT d j q:=by unfold ciT;rw[h]
@[grind] def PGr(c:Nat):Prop:=c=61\/c=62\/c=63\/c=64
@[grind] def PG3(c:Nat):Prop:=c=61\/c=63\/c=64
structure GrS(own:aG)(f:av)(m p bl bm N:Nat)(os:aI)(vg:V)(r:Rs):Prop where
 P:∃g,At own 61 f m p (.row 437 4 0 true [.au,.au,.au,.num 0] (.cf g))/\g 0=vg/\g 1= .sl bl 0 r.lf.length (.known N)/\g 2= .sl bm 0 os.length (.known os.length)/\g 3=Q r.fr
 L:∃g,At own 63 f m bl (.row 49 (N*5) 0 true [.num 0,.num 0,.num 0,.num 0,.num 0] (.cf g))/\TkG g r.lf/\∀j,j<N*5->g j≠ .undef
 M:∃g,At own 64 f m bm (.row 149 (os.length*4) 0 true [.num 0,.num 0,.num 0,.num 0] (.cf g))/\MmG g r.acc os/\∀j,j<os.length*4->g j≠ .undef
 aEZ:bS own 62 f m 49 5 vg r.gr.length (gz r.gr)
 n:r.gr.length+r.lf.length=N
section
variable {own:aG} {f:av} {m p bl bm N:Nat} {os:aI} {vg:V} {r:Rs}
def GrS.ah{t:aG}{b:Nat}{P:dF}(h:GrS own f m p bl bm N os vg r)(q:Fr P own f m t y b)(a:∀c,PGr c->¬P c):GrS t y b p bl bm N os vg r:=by obtain⟨g,A,d⟩:=h.P;obtain⟨z,e,u⟩:=h.L;obtain⟨o,i,F⟩:=h.M;exact⟨⟨g,A.ah q (a _ (.inl rfl)),d⟩,⟨z,e.ah q (a _ (.inr (.inr (.inl rfl)))),u⟩,⟨o,i.ah q (a _ (.inr (.inr (.inr rfl)))),F⟩,h.aEZ.ah q (a _ (.inr (.inl rfl))),h.n⟩
def a5P{a:Nat->Acc}(hd:os.Nodup)(z:j<os.length)(F:i<os.length)(n:Int):ed (xe a os i n) os j=if j=i then jj.uj.ap (ed a os i) n else ed a os j:=by
 unfold xe ed;by_cases h:j=i
 .subst h;rw[ao rfl,dQ]
 .rw [aj h,gI];intro e;rw[xx,xx,bT z,bT F] at e;exact h ((AB hd).1 e)
def a4s{R:Rt}(H:GrS own f m p bl bm N os vg r)(hd:os.Nodup)(hN:N<=4096)(ho:os.length<=64)(hS:∀i,i<os.length->qk (ed r.acc os i))(hi:i<r.lf.length)
  (hm:0<=kz os (dG r.lf i).c) (ha:zH r.acc os (kz os (dG r.lf i).c) (dG r.lf i).n=true) (hf:(dG r.lf i).n<=r.fr) (hfr:r.fr<=1048576):
  Cl R.Y.Y.Y.Y.Y 385 [.ptr p 0,Q i] f m (λu f' m'=>∃bo vg',u≠ .undef/\GrS bo f' m' p bl bm N os vg' (mP os r i)/\Fr PGr own f m bo f' m'):=by
 intro k aEY hk;obtain⟨g,A,g0,g1,g2,g3⟩:=H.P;obtain⟨gl,h2,t,hlu⟩:=H.L;obtain⟨gm,h3,hmm,hmu⟩:=H.M;have hn:=H.n;have o1:=A.obj;have o2:=h2.obj;have o3:=h3.obj;have d:p≠m:=by have:=A.lt;omega
 have n2:p≠pl m 1:=K9;have n3:bl≠m:=by have:=h2.lt;omega
 have C:bl≠pl m 1:=U3;have k0:gl (i*5)=Q ((dG r.lf i).i:Nat):=t i hi 0 I;have k1:gl (i*5+1)=Q ((dG r.lf i).c:Nat):=t i hi 1 I;have k2:gl (i*5+2)=Q ((dG r.lf i).n:Nat):=t i hi 2 I;have k3:gl (i*5+3)=Q ((dG r.lf i).s:Nat):=t i hi 3 I;have k4:gl (i*5+4)=Q ((dG r.lf i).p:Nat):=t i hi 4 I;have c1:i*5+5<=N*5:=Z;have c2:i<=N:=Z;have c3:i<=9223372036854775807:=Z;refine cUx func385 ?_;simp only[go_sem,o1,o2,d,n2,n3,g1,k0,k1,k2,k3,k4,c1,c2,c3,hi,j7];refine uV ?_;intro F hF;have hle:∀j,j<=i->(uc r.lf j).length=r.lf.length:=λj z=>Er r.lf j Z;have hFp:F p=_:=(by rw[hF,aE n2,aE n2,aE d]:F p=f p).trans o1;have hFb:F bl=_:=(by rw[hF,aE C,aE C,aE n3]:F bl=f bl).trans o2;have npb:p≠bl:=A.ne h2 I;refine cU (x:=.exit 0) (n:=i) (aF0:=λrem e f' m'=>∃(j:Nat) (a:dA),j+rem=i/\m'=pl m 2/\(∀x,x≠bl->f' x=F x)/\f' bl=(.row 49 (N*5) 0 true [.num 0,.num 0,.num 0,.num 0,.num 0] (.cf (a)))/\TkG a (uc r.lf j)/\(∀j,j<N*5->a j≠ .undef)/\
   (eg 0).get e= .ptr p 0/\(eg 1).get e=Q i/\(eg 4).get e= .ptr m 0/\(eg 5).get e= .ptr (pl m 1) 0/\(eg 21).get e=Q i/\(eg 22).get e=Q j)
  (E:=λe f' m'=>∃a:dA,m'=pl m 2/\(∀x,x≠bl->f' x=F x)/\f' bl=(.row 49 (N*5) 0 true [.num 0,.num 0,.num 0,.num 0,.num 0] (.cf (a)))/\TkG a (uc r.lf i)/\(∀j,j<N*5->a j≠ .undef)/\(eg 0).get e= .ptr p 0/\(eg 1).get e=Q i/\(eg 4).get e= .ptr m 0/\(eg 5).get e= .ptr (pl m 1) 0) ?_ J2 ?_ ?_
 .exact ⟨0,gl,Z,rfl,λ_ _=>rfl,hFb,by unfold uc;simpa using t,hlu,E6,E6,E6,E6,E6,E6⟩
 .rintro rem e f1 m1 ⟨j,a,hjr,rfl,zx,hb1,ve,hu1,e0,e1,e4,e5,e21,e22⟩ rr kx lR hE;unfold iB;by_cases z:j<i
  case neg=>have Ut:¬((j:Int)<(i:Int)):=Z;obtain rfl:j=i:=Z;refine zS ?_;exact hE _ _ _ ⟨a,rfl,zx,hb1,ve,hu1,e0,e1,e4,e5⟩
  have Ut:(j:Int)<(i:Int):=Z;have QS:j<r.lf.length:=Z;have yl:f1 p=_:=(zx p npb).trans hFp;have w4:a (j*5+4)=Q ((dG r.lf j).p:Nat):=by have:=ve j (by rw[hle j Z];omega) 4 I;rw[this,Im (uc r.lf j) r.lf j j (by rw[sq r.lf j j Z QS,aj (uz j)]) 4];rfl
  have c4:j*5+4<N*5:=Z;have c4':j*5+4+1<=N*5:=Z;have ew:IntKind.i64.wrap ((j:Int)+1)=((j+1:Nat):Int):=Qf;have step:∀g2:dA,(∀q x,x<5->q<r.lf.length->g2 (q*5+x)=if q=j/\x=4 then Q ((jY (dG r.lf j)).p:Nat) else a (q*5+x))->TkG g2 (uc r.lf (j+1)):=by
   intro g2 h q hq x S;rw[hle (j+1) Z] at hq;rw[h q x S hq];have e1:=sq r.lf (j+1) q Z hq;have e2:=sq r.lf j q Z hq;have hgq:=ve q (by rw[hle j Z];exact hq) x S;by_cases hqj:q=j
   .subst hqj;rw[ao (xu q)] at e1;rw[aj (uz q)] at e2;by_cases Cm:x=4
    .subst Cm;rw[ao ⟨rfl,rfl⟩];unfold ciT;rw[e1];rfl
    .rw [aj (λh=>Cm h.2),hgq];have pi:(jY (dG r.lf q)).i=(dG r.lf q).i/\(jY (dG r.lf q)).c=(dG r.lf q).c/\(jY (dG r.lf q)).n=(dG r.lf q).n/\(jY (dG r.lf q)).s=(dG r.lf q).s:=by
      unfold jY;split<;>exact⟨rfl,rfl,rfl,rfl⟩
     unfold ciT;rw[e1,e2,pi.1,pi.2.1,pi.2.2.1,pi.2.2.2];rcases(Z:x=0\/x=1\/x=2\/x=3) with rfl|rfl|rfl|rfl<;>rfl
   .rw [aj (λh=>hqj h.1),hgq];congr 1;refine Im _ _ q q ?_ x;rw[e1,e2];by_cases h:q<j
    .rw [ao h,ao Z]
    .rw [aj h,aj Z]
  by_cases hp:(dG r.lf j).p<1099511627776
  .have tV:((dG r.lf j).p:Int)<1099511627776:=by omega
   have ewp:IntKind.i64.wrap (((dG r.lf j).p:Int)+1)=(((dG r.lf j).p+1:Nat):Int):=Qf;refine zS ?_;refine lR (rem-1) _ _ _ Z ⟨j+1,cy a (j*5+4) (Q (((dG r.lf j).p+1:Nat):Int)),Z,rfl,?_,?_,?_,?_,E6,E6,E6,E6,E6,E6⟩
   .intro x S;rw[aE S];exact zx x S
   .exact aK ..
   .refine step _ λq x S hq=>?_;by_cases h:q=j/\x=4
    .obtain ⟨rfl,rfl⟩:=h;rw[ao ⟨rfl,rfl⟩,cd];unfold jY;rw[ao hp]
    .rw [aj h,a04 Z]
   .intro q hq;by_cases h:q=j*5+4
    .rw [h,cd];exact iW _
    .rw [a04 h];exact hu1 q hq
  .have tV:¬((dG r.lf j).p:Int)<1099511627776:=by omega
   refine zS ?_;refine lR (rem-1) _ _ _ Z ⟨j+1,a,Z,rfl,zx,hb1,?_,hu1,E6,E6,E6,E6,E6,E6⟩;refine step _ λq x S hq=>?_;by_cases h:q=j/\x=4
   .obtain ⟨rfl,rfl⟩:=h;rw[ao ⟨rfl,rfl⟩,w4];unfold jY;rw[aj hp]
   .rw [aj h]
 .rintro e f1 m1 ⟨a,rfl,zx,hb1,ve,hu1,e0,e1,e4,e5⟩;have yl:f1 p=_:=(zx p npb).trans hFp;have ew:IntKind.i64.wrap ((i:Int)+1)=(i:Int)+1:=cB Z;simp only[go_sem,e0,e1,yl,g1,ew, ↓ag 429];apply(RR U3 hb1 Z hN hi hu1).bu;rintro u f2 m2 ⟨rfl,rfl,gd,rfl,hgd,hud⟩;have QR:(bw f1 bl (.row 49 (N*5) 0 true [.num 0,.num 0,.num 0,.num 0,.num 0] (.cf gd))) p=_:=(aE npb _ _).trans yl;have nbm:bm≠bl:=h3.ne h2 I;have npm:p≠bm:=A.ne h3 I;have nm0:bm≠m:=by have:=h3.lt;omega
  have nm1:bm≠pl m 1:=by have:=h3.lt;unfold pl;omega
  have ug2:∀x,cy g 1 x 2= .sl bm 0 os.length (.known os.length):=λx=>by rw[a04 I];exact g2
  simp only[go_sem,e0,e5,QR,g2, ↓ag 365];refine aP ?_;intro F3 tW;have b0:F3 m=(.row 49 5 0 true [.num 0,.num 0,.num 0,.num 0,.num 0] (.cf (zf [.num 0,.num 0,.num 0,.num 0,.num 0]))):=by rw[tW,aE (Ne.symm d),aE (Ne.symm n3),zx m (Ne.symm n3),hF];exact zC
  have b1:F3 (pl m 1)=(.row 49 5 0 true [.num 0,.num 0,.num 0,.num 0,.num 0] (.cf (laid 0 [Q (dG r.lf i).i,Q (dG r.lf i).c,Q (dG r.lf i).n,Q (dG r.lf i).s,Q (dG r.lf i).p] (zf [.num 0,.num 0,.num 0,.num 0,.num 0])))):=by rw[tW,aE (Ne.symm n2),aE (Ne.symm C),zx _ (Ne.symm C),hF];exact zC
  have bp:=(congrFun tW p).trans (aK ..);have bb:=(congrFun tW bl).trans ((aE (Ne.symm npb) _ _).trans (aK ..));have bM:F3 bm=_:=(by rw[tW,aE (Ne.symm npm),aE nbm,zx bm nbm,hF,aE nm1,aE nm1,aE nm0]:F3 bm=f bm).trans o3;have lm3:=h3.lt;have q3:Fr PG3 own f m own F3 (pl m 2):=⟨W,λ_ _=>rfl,λx S Dp=>by have x1:x≠p:=λe=>Dp (by rw[e,A.own];exact .inl rfl);have x2:x≠bl:=λe=>Dp (by rw[e,h2.own];exact .inr (.inl rfl));rw[tW,aE x1,aE x2,zx x x2,hF,aE W,aE W,aE Z],λh0 x S=>h0 x W⟩;refine(nu (hmm.uf (cp:=.known os.length) W bM) Z (ciM r.acc os) (λi hi j z=>tL r.acc os i hi j z) 430 (ckg I) [.ptr (pl m 1) 0] (λj=>decide ((os.getD j 0:Nat)=(dG r.lf i).c)) ?_).bu ?_
  .intro j z F4 M4 hg k2 K2 Us;have a1:=(hg.ah (pl m 1) W).trans b1;have l4:=hg.le;have nM:pl m 1≠M4:=W;have hp:pb (((os.getD j 0:Nat):Int)=((dG r.lf i).c:Nat))=decide ((os.getD j 0:Nat)=(dG r.lf i).c):=by
    by_cases e:(os.getD j 0:Nat)=(dG r.lf i).c
    .rw [mZ Z,dI e]
    .rw [kM Z,dB e]
   show R.Y.Y.Y.call _ [.agg [Q ((os.getD j 0:Nat):Int),Q (ciM r.acc os j 1),Q (ciM r.acc os j 2),Q (ciM r.acc os j 3)],.ptr (pl m 1) 0] _ _=_;refine cUx func430 ?_;refine zS ?_;exact Us _ _ _ ⟨rfl,(B.w (m2:=M4) Qe E1)⟩
  rintro u f4 m4 ⟨rfl,q4⟩;obtain⟨b,hjm⟩:∃j:Nat,kz os (dG r.lf i).c=j:=⟨_,(uJ hm).symm⟩;have apG:l8 (λj=>decide ((os.getD j 0:Nat)=(dG r.lf i).c)) 0 os.length=(b:Int):=hjm;rw[hjm] at ha;have ha':=pn ha;rw[iI] at ha';have QS:b<os.length:=Z;rw[apG];have cM:=(q4.ah bm W).trans bM;have cp:=(q4.ah p K9).trans bp;have cb:=(q4.ah bl U3).trans bb;have ct:=(q4.ah (pl m 1) W).trans b1;have c0:=(q4.ah m W).trans b0;have v1:gm (b*4+1)=Q (ed r.acc os b).c:=hmm b QS 1 I;have v2:gm (b*4+1+1)=Q (ed r.acc os b).h:=hmm b QS 2 I;have v3:gm (b*4+1+1+1)=Q (ed r.acc os b).r:=hmm b QS 3 I;have x1:b*4+1+3<=os.length*4:=Z;have x2:b*4+1<os.length*4:=Z;simp only[go_sem,e0,e5,cp,g2,cM,ct,QS,dz,v1,v2,v3,x1, ↓ag 431];apply(yy (ed r.acc os b) (hS b QS) ((dG r.lf i).n:Nat) _ f4 m4).bu;rintro u f5 m5 ⟨rfl,q5⟩;rw[ao ha'.2.2,ha'.2.2];obtain⟨x,S⟩:∃x,x=jj.uj.ap (ed r.acc os b) ((dG r.lf i).n:Nat):=⟨_,rfl⟩;rw[←S];have q45:=q4.trans q5;have dM:=(q5.ah bm U6).trans cM;have dp:=(q5.ah p (by have:=q4.le;have:=A.lt;unfold pl at *;omega)).trans cp;have db:=(q5.ah bl (by have:=q4.le;have:=h2.lt;unfold pl at *;omega)).trans cb;have dt:=(q5.ah (pl m 1) A9).trans ct;have d0:=(q5.ah m A9).trans c0;have l5:=q45.le;unfold pl at l5;have ug3:∀x,cy g 1 x 3=Q r.fr:=λx=>by rw[a04 I];exact g3
  have ug0:∀x y,cy (cy g 1 x) 3 y 0=vg:=λx y=>by rw[a04 I,a04 I];exact g0
  have ew2:IntKind.i64.wrap (r.fr-((dG r.lf i).n:Nat))=r.fr-((dG r.lf i).n:Nat):=cB Z;have m1:p≠m5:=by have:=A.lt;omega
  have m2:bm≠m5:=Z;have m3:pl m 1≠m5:=W;have m4:m≠m5:=Z;have m0:m≠pl m 1:=W;unfold Acc.v Acc.cs;simp only[go_sem,e0,e4,e5,dp,dM,dt,g0,g2,g3,H.aEZ.tR,H.aEZ.bt,ew2,QS,x1,npm,n2,n2.symm,nm1.symm,m1,m3,dz];refine gE ?_;intro F6 hF6;have q5f:Fr PG3 own f m own f5 m5:=q3.trans (q45.fr own PG3) (λ_ h=>h) (λ_ h=>h);have q6':Fr PG3 own f m own F6 (pl m5 1):=by rw[hF6];exact(((q5f.bw (λ_=>by rw[h3.own];exact .inr (.inr rfl))).bw (λ_=>Ze)).bw W).new
  obtain⟨l,a48⟩:∃o,o=rQ (rQ own m 4) (pl m 1) 4:=⟨_,rfl⟩;have q6:Fr PG3 own f m l F6 (pl m5 1):=by rw[a48];exact(q6'.owns (bP _)).owns W
  have o6m:l m=4:=by rw[a48,oU W];exact iY ..
  have o6t:l (pl m 1)=4:=by rw[a48];exact iY ..
  have A6p:At l 61 F6 (pl m5 1) p (.row 437 4 0 true [.au,.au,.au,.num 0] (.cf (cy (cy g 1 (.sl bl 0 (r.lf.length-1) (.known N))) 3 (Q (r.fr-((dG r.lf i).n:Nat)))))):=⟨by rw[hF6,aE m1,aE n2];exact aK ..,(q6.same p A.lt).trans A.own,K9⟩;have A6m:At l 64 F6 (pl m5 1) bm (.row 149 (os.length*4) 0 true [.num 0,.num 0,.num 0,.num 0] (.cf (laid (b*4+1) [Q x.c,Q x.h,Q x.r] gm))):=⟨by rw[hF6,aE m2,aE nm1,aE npm.symm];exact aK ..,(q6.same bm h3.lt).trans h3.own,W⟩;have m6:bl≠m5:=by have:=h2.lt;omega
  have A6l:At l 63 F6 (pl m5 1) bl (.row 49 (N*5) 0 true [.num 0,.num 0,.num 0,.num 0,.num 0] (.cf gd)):=⟨by rw[hF6,aE m6,aE C,aE npb.symm,aE nbm.symm];exact db,(q6.same bl h2.lt).trans h2.own,U3⟩;have b6m:F6 m=_:=(by rw[hF6,aE m4,aE m0,aE d.symm,aE nm0.symm]:F6 m=f5 m).trans d0;have b6t:F6 (pl m 1)=_:=(congrFun hF6 (pl m 1)).trans ((aE m3 _ _).trans (aK ..));have hG6:bS l 62 F6 (pl m5 1) 49 5 vg r.gr.length (gz r.gr):=H.aEZ.ah q6 (by unfold PG3;decide);refine dv hG6 (n':=1) rfl (λu hu=>?_) Z Z ?_
  .simp only[fY,lG,or_false] at hu;rcases hu with rfl|rfl|rfl|rfl|rfl<;>exact iW _
  intro v7 Dz f7 m7 hv7 q7;have A7p:=A6p.ah q7 I;have A7m:=A6m.ah q7 I;have A7l:=A6l.ah q7 I;have b7m:=(q7.ah m W (by rw[o6m];decide)).trans b6m;have b7t:=(q7.ah (pl m 1) W (by rw[o6t];decide)).trans b6t;have l7:=q7.le;unfold pl at l7;have o7p:=A7p.obj;simp only[go_sem,o7p,b7m,b7t,hv7.one,d.symm,n2.symm];refine fG ?_;intro aEZ hG;have qG:Fr (λc=>c=61\/c=4) Dz f7 m7 Dz aEZ m7:=by rw[hG];exact((Fr.refl _ Dz f7 m7).bw (λ_=>.inl A7p.own)).bw (λ_=>.inr ((q7.same m W).trans o6m))
  have acR:kz os (dG r.lf i).c=(b:Int):=hjm;refine hk _ _ _ ⟨Dz,v7,λh=>Q8,⟨⟨cy (cy (cy g 1 (.sl bl 0 (r.lf.length-1) (.known N))) 3 (Q (r.fr-((dG r.lf i).n:Nat)))) 0 v7,⟨?_,A7p.own,A7p.lt⟩,cd ..,?_,?_,?_⟩,⟨gd,A7l.ah qG I,?_,hud⟩,⟨_,A7m.ah qG I,?_,?_⟩,?_,?_⟩,?_⟩
  .rw [hG,aE d];exact aK ..
  .rw [a04 I,a04 I,cd];show _=V.sl bl 0 (Ue r.lf i).length (.known N);rw[tF r.lf i hi]
  .rw [a04 I,a04 I,a04 I];exact g2
  .rw [a04 I,cd];rfl
  .intro j z q hq;have Aq:j<(Ue r.lf i).length:=z;rw[tF r.lf i hi] at Aq;rw[hgd j Aq q hq];have e1:=a3G r.lf i j hi Aq;by_cases h:j<i
   .rw [ao h,ve j Je q hq];congr 1;refine Im _ _ _ _ ?_ q;show _=dG (Ue r.lf i) j;rw[e1,sq r.lf i j Z Z,ao h,ao h]
   .rw [aj h,ve (j+1) Je q hq];congr 1;refine Im _ _ _ _ ?_ q;show _=dG (Ue r.lf i) j;rw[e1,sq r.lf i (j+1) Z Z,aj h,aj Z]
  .intro j z q hq;show _=Q (ciM (xe r.acc os (kz os (dG r.lf i).c).toNat (dG r.lf i).n) os j q);rw[acR,iI];unfold ciM;rw[a5P hd z QS,←S];by_cases h:j=b
   .subst h;rw[ao rfl];rcases(Z:q=0\/q=1\/q=2\/q=3) with rfl|rfl|rfl|rfl
    .rw [dL Z];exact hmm j z 0 I
    .rw [du Z J1,mH];rfl
    .rw [du Z J1,show j*4+2-(j*4+1)=1 by omega];rfl
    .rw [du Z J1,show j*4+3-(j*4+1)=2 by omega];rfl
   .rw [aj h,dL Y6];exact hmm j z q hq
  .intro j z;by_cases h:b*4+1<=j/\j<b*4+1+3
   .rw [du h.1 (by simpa using h.2)];rcases(Z:j-(b*4+1)=0\/j-(b*4+1)=1\/j-(b*4+1)=2) with e|e|e<;>rw[e]<;>exact iW _
   .rw [dL R8];exact hmu j z
  .have:=hv7.ah qG I;show bS Dz 62 aEZ m7 _ 5 v7 (r.gr++ [HI (dG r.lf i)]).length (gz (r.gr++ [HI (dG r.lf i)]));rw[eZ,show gz (r.gr++ [HI (dG r.lf i)])=gz r.gr++ [Q (dG r.lf i).i,Q (dG r.lf i).c,Q (dG r.lf i).n,Q 2,Q (dG r.lf i).p] by unfold gz;rw[mK];rfl];exact this
  .show (r.gr++ [HI (dG r.lf i)]).length+(Ue r.lf i).length=N;rw[tF r.lf i hi,eZ,a1h];omega
  .have q67:Fr PGr own f m Dz f7 m7:=q6.trans q7 (λc h=>h.elim .inl (λh=>.inr (.inr h))) (λc h=>.inr (.inl h));rw[hG];exact(q67.bw (λ_=>Ze)).bw (λh=>Z)
end
variable{p1:Nat}{vm vt:V}
def iT(os:aI)(wt:Int):Nat->Rs->Rs
 |0,r=>r
 |k+1,r=>if oy r.acc os r.lf r.fr wt<0 then r else iT os wt k (mP os r (oy r.acc os r.lf r.fr wt).toNat)
structure yA(os:aI)(wt:Int)(r:Rs):Prop where
 R:∀i,i<os.length->qk (ed r.acc os i)
 t:∀i,i<r.lf.length->1<=(dG r.lf i).n
 b:0<=r.fr/\0<=wt/\r.fr+wt<=1048576
def Ct{a:Nat->Acc}{F:List Tk}{fr:Int}(h:ND a os F fr wt i=true):0<=kz os (dG F i).c/\CF F i<0/\(dG F i).n<=fr/\zH a os (kz os (dG F i).c) (dG F i).n=true:=by unfold ND Hl at h;grind
def a7x(t:Tk):(jY t).n=t.n:=by unfold jY;grind
def yA.next{r:Rs}(h:yA os wt r)(hd:os.Nodup)(F:i<r.lf.length)(p:ND r.acc os r.lf r.fr wt i=true):yA os wt (mP os r i):=by
 obtain⟨A,_,M,u⟩:=Ct p;have s:=h.b;refine⟨a5K h.R hd u,λj z=>?_,?_⟩
 .have z:j<(Ue r.lf i).length:=z;rw[tF r.lf i F] at z;show 1<=(dG (Ue r.lf i) j).n;rw[a3G r.lf i j F z];split
  .rw [a7x];exact h.t j Z
  .exact h.t (j+1) Z
 .show 0<=r.fr-((dG r.lf i).n:Nat)/\0<=wt/\r.fr-((dG r.lf i).n:Nat)+wt<=1048576;omega
def uU(a:Nat->Acc)(os)(F:List Tk)(fr wt:Int):oy a os F fr wt= -1\/∃i:Nat,i<F.length/\oy a os F fr wt=i/\ND a os F fr wt i=true:=by
 rcases iZ (ND a os F fr wt) 0 F.length with⟨h,_⟩|⟨j,_,A,N,M,_⟩
 .exact .inl h
 .exact .inr ⟨j,Z,M,N⟩
section
variable {own:aG} {f:av} {m p bl bm N:Nat} {os:aI} {vg:V} {r:Rs} {wt:Int}
def GrS.ask(H:GrS own f m p bl bm N os vg r)(h:yA os wt r)(hd:os.Nodup)(q:N<=4096)(k:os.length<=64):Ask f m (.sl bm 0 os.length (.known os.length)) (.sl bl 0 r.lf.length (.known N)) r.acc os r.lf r.fr wt:=by obtain⟨x,d,j,c⟩:=H.L;obtain⟨l,i,v,a⟩:=H.M;have g:=H.n;exact⟨v.uf i.lt i.obj,j.uf d.lt d.obj Z,λb o S e=>(by cases e;exact⟨N*5,Z,Z⟩),Z,k,hd,h.R,h.t,h.b⟩
@[grind] def PRy(c:Nat):Prop:=PGr c\/c=4
def Ry{R:Rt}(H:GrS own f m p bl bm N os vg r)(hI:yA os wt r)(hd:os.Nodup)(hN:N<=4096)(ho:os.length<=64){y p2:Nat}
  (A:At own 7 f m p1 (.row 551 1 0 true [.bg] (.cf (bI [.ptr p 0])))) (h2:At own 7 f m p2 (.row 3 1 0 true [.num 0] (.cf (bI [Q wt]))))
  (X:aG->av->dF)
  (w:∀own f m t f' L,X own f m->Fr PGr own f m t f' L->X t f' L)
  (h0:X own f m)
  (hy:∀own f m u,u≠ .undef->X own f m->Rd R.Y.Y.Y.Y.Y.Y.Y.Y.Y.Y.Y.Y.Y.Y y [u] f m (λb f' L=>b=true/\∃t,X t f' L/\Fr (· =4) own f m t f' L)):
  Cl R.Y.Y.Y.Y.Y.Y.Y.Y.Y.Y.Y.Y.Y.Y.Y 383 [.yield y,.ptr p1 0,.ptr p2 0] f m (λ_ f' L=>∃t a,X t f' L/\GrS t f' L p bl bm N os a (iT os wt r.lf.length r)/\yA os wt (iT os wt r.lf.length r)/\oy (iT os wt r.lf.length r).acc os (iT os wt r.lf.length r).lf (iT os wt r.lf.length r).fr wt= -1/\Fr PRy own f m t f' L):=by
 intro k aEY hk;refine cUx func383 ?_;refine zS ?_;refine cU (x:=.ret) (n:=r.lf.length+1) (aF0:=λrem e f' L=>∃(M:Rs) (t:aG) (a:V),rem=M.lf.length+1/\GrS t f' L p bl bm N os a M/\yA os wt M/\iT os wt M.lf.length M=iT os wt r.lf.length r/\X t f' L/\At t 7 f' L p1 (.row 551 1 0 true [.bg] (.cf (bI [.ptr p 0])))/\At t 7 f' L p2 (.row 3 1 0 true [.num 0] (.cf (bI [Q wt])))/\Fr PRy own f m t f' L/\
   (eg 0).get e= .yield y/\(eg 1).get e= .ptr p1 0/\(eg 2).get e= .ptr p2 0)
  (E:=λe f' L=>∃t a,X t f' L/\GrS t f' L p bl bm N os a (iT os wt r.lf.length r)/\yA os wt (iT os wt r.lf.length r)/\oy (iT os wt r.lf.length r).acc os (iT os wt r.lf.length r).lf (iT os wt r.lf.length r).fr wt= -1/\Fr PRy own f m t f' L) ?_ (by rw[sA];have:=H.n;omega) ?_ ?_
 .exact ⟨r,own,vg,rfl,H,hI,rfl,h0,A,h2,Fr.refl ..,E6,E6,E6⟩
 .rintro rem e f1 l ⟨M,t,a,acM,H',hI',lx,S,b1,d,q,c,e1,e2⟩ rr kx C hE;unfold iB;obtain⟨g,hP,g0,g1,z,g3⟩:=H'.P;have o1:=b1.obj;have o2:=d.obj;have oP:=hP.obj;simp only[go_sem,e1,e2,o1,o2,oP,g1,z,g3, ↓ag 384];apply(a7c (H'.ask hI' hd hN ho)).bu;rintro u f2 m2 ⟨rfl,o⟩;have c1:=(b1.gr o).obj;have c2:=(d.gr o).obj;have cP:=(hP.gr o).obj;rcases uU M.acc os M.lf M.fr wt with hn|⟨i,F,hn,hg⟩
  .have er:iT os wt M.lf.length M=M:=by
    cases hl:M.lf.length with
    |zero=>rfl
    |succ k=>unfold iT;grind
   rw[hn];refine zS ?_;refine hE _ _ _ ⟨t,a,w _ _ _ _ _ _ S (o.fr t PGr),?_,?_,?_,?_⟩
   .rw [←lx,er];exact H'.ah (o.fr t (λ_=>False)) (λ_ _ h=>h)
   .grind
   .grind
   .exact q.trans (o.fr t PRy) (λ_ h=>h) (λ_ h=>h)
  .have ci:¬(i:Int)<0:=by omega
   obtain⟨y1,y2,y3,y4⟩:=Ct hg;rw[hn];simp only[go_sem,c,e1,c1,ci, ↓ag 385];have hb:=hI'.b;refine(a4s (H'.ah (o.fr t (λ_=>False)) (λ_ _ h=>h)) hd hN ho hI'.R F y1 y4 y3 Z).bu ?_;rintro u f3 s ⟨g9,vg3,hu,H3,q3⟩;have x3:=w _ _ _ _ _ _ (w _ _ _ _ _ _ S (o.fr t PGr)) q3;simp only[go_sem,bN hu];refine hy g9 f3 s u hu x3 _ _ ?_;rintro bb f4 v ⟨rfl,cS,x4,q4⟩;simp only[go_sem];have hl:(mP os M i).lf.length=M.lf.length-1:=tF M.lf i F;have hrn:iT os wt (mP os M i).lf.length (mP os M i)=iT os wt M.lf.length M:=by
    obtain⟨j,hk'⟩:∃j,M.lf.length=j+1:=⟨M.lf.length-1,Z⟩;rw[hl,hk',show j+1-1=j by omega]
    conv=>rhs;unfold iT
    rw[hn,aj ci,iI]
   have WK:Fr PGr t f1 l g9 f3 s:=(o.fr t PGr).trans q3 (λ_ h=>h) (λ_ h=>h);exact C (rem-1) _ _ _ Z ⟨mP os M i,cS,vg3,Z,H3.ah q4 W,hI'.next hd F hg,W,x4,(b1.ah WK D8).ah q4 I,(d.ah WK D8).ah q4 I,(q.trans WK (λ_ h=>h) (λ_ h=>.inl h)).trans q4 (λ_ h=>h) (λ_ h=>.inr h),E6,E6,E6⟩
 .rintro e f1 l h;simp only[go_sem];grind
def YS(p:Nat)(wt:Int)(R:Rt)(f)(m:Nat)(k):R.Y.call 329 [.ptr p 0,Q wt] (.fn f m) k=k (.fn 383 [] [.ptr m 0,.ptr (pl m 1) 0]) (.fn (bw (bw f m (.row 551 1 0 true [.bg] (.cf (bI [.ptr p 0])))) (pl m 1) (.row 3 1 0 true [.num 0] (.cf (bI [Q wt])))) (pl m 2)):=by refine cUx func329 ?_;exact zC
def adf{R:Rt}{acc:Nat->Acc}{ts:List Tk}{fr:Int}(v:i7 f m 49 5 vt ts.length (gz ts))(hM:i7 f m 149 4 vm os.length (fM acc os))(hn:ts.length<=4096)(ho:os.length<=64)(hd:os.Nodup)(hI:yA os wt ⟨[],ts,acc,fr⟩):
  Cl R.Y.Y.Y.Y.Y.Y.Y.Y.Y.Y.Y.Y.Y.Y.Y.Y 242 [vt,Q fr,Q wt,vm] f m (λu f' m'=>(∃vg vl w,∃r:Rs,r=iT os wt ts.length ⟨[],ts,acc,fr⟩/\u= .agg [vg,vl,w,Q r.fr]/\Fs f' m m' 49 5 vg r.gr.length (gz r.gr)/\Fs f' m m' 49 5 vl r.lf.length (gz r.lf)/\yA os wt r/\oy r.acc os r.lf r.fr wt= -1/\r.gr.length+r.lf.length=ts.length)/\B f m f' m'):=by
 intro k aEY E;obtain⟨t1,t2,t3,t4⟩:=bV v;obtain⟨v1,v2,v3,v4⟩:=bV hM;refine cUx func242 ?_;simp only[go_sem,t1,v1, ↓ag 328];refine aP ?_;intro F0 hF0;have q0:B f m F0 (pl m 1):=by rw[hF0];exact(B.w (m2:=m) Qc E1)
 apply(YT (v.gr q0) (hM.gr q0) hn ho fr).bu;rintro u f1 l ⟨⟨bl,bm,gl,gm,rfl,l1,l2,l3,l4,l5,a1,i,a3,a4,a5,a6⟩,q1⟩;have hg:=YS l wt;refine zS ?_;refine sM ?_;intro lo IL;refine ld ?_;intro F hF;obtain⟨own,r8⟩:∃o,o=cm (rQ (rQ (λ_=>0) bl 63) bm 64) l [61,7,7,4,4]:=W;have w0:∀x,x<pl m 1->own x=0:=λx S=>by rw[r8];unfold cm;rw[aj Z,oU Z,oU Z]
 have wl:own bl=63:=by rw[r8];unfold cm;rw[aj Z,oU l5];exact iY ..
 have wm:own bm=64:=by rw[r8];unfold cm;rw[aj Z];exact iY ..
 have e0:own l=61:=by rw[r8];unfold cm;simp
 have e1:own (pl l 1)=7:=W9;have e2:own (pl l 2)=7:=W9;have A:own (pl l 3)=4:=W9;have e4:own (pl l 4)=4:=W9;have H:GrS own F (pl l 5) l bl bm ts.length os .au ⟨[],ts,acc,fr⟩:=by
  refine⟨⟨laid 0 [.au,.sl bl 0 ts.length (.known ts.length),.sl bm 0 os.length (.known os.length),Q fr] (zf [.au,.au,.au,.num 0]),⟨?_,e0,W⟩,rfl,rfl,rfl,rfl⟩,⟨gl,⟨?_,wl,W⟩,i,a3⟩,⟨gm,⟨?_,wm,W⟩,a5,a6⟩,.inl G,J1⟩
  .rw [hF];exact zC
  .rw [hF,aE W,aE W,aE W,aE W,aE Z,aE Z];trivial
  .rw [hF,aE W,aE W,aE W,aE W,aE Z,aE Z];trivial
 refine(Ry H hI hd hn ho (y:=pl l 4) (p1:=pl l 1) (p2:=pl l 2) ⟨O7,e1,W⟩ ⟨O7,e2,W⟩ (λown f m=>At own 4 f m (pl l 4) lo/\At own 4 f m (pl l 3) (.sJ (some []))) ?_ ⟨⟨O7,e4,W⟩,⟨O7,A,W⟩⟩ ?_).go ?_
 .intro o2 d C o3 f3 m3 h q;exact⟨h.1.ah q D8,h.2.ah q D8⟩
 .rintro o2 d C u hu ⟨h,M⟩ k2 T Us;have ob:=h.obj;simp only[go_sem,kL,ob,IL];refine fG ?_;intro aEZ hG;have q5:Fr (· =4) o2 d C o2 aEZ C:=by rw[hG];exact((Fr.refl _ o2 d C).bw (λ_=>h.own)).bw (λ_=>h.own)
  refine Us _ _ _ ⟨rfl,o2,⟨⟨?_,h.own,h.lt⟩,⟨?_,M.own,M.lt⟩⟩,q5⟩
  .rw [hG,IL];exact aK ..
  .rw [hG,aE W,aE W];exact M.obj
 rintro u d C ⟨dm,vg2,⟨S,hx3⟩,H2,hI2,hnx,q2⟩;have wk:∀x,x<pl l 5->dm x=own x:=λx S=>q2.same x S;obtain⟨r,hr⟩:∃r,r=iT os wt ts.length ⟨[],ts,acc,fr⟩:=W;have p:iT os wt (Rs.lf ⟨[],ts,acc,fr⟩).length ⟨[],ts,acc,fr⟩=r:=hr.symm;rw[p] at H2 hI2 hnx;obtain⟨g,hP,g0,g1,z,g3⟩:=H2.P;obtain⟨gl2,hL,hl1,hl2⟩:=H2.L;have oP:=hP.obj;have ox:=S.obj;have ox3:=hx3.obj;have n3:pl l 3≠pl l 4:=W;have n4:m≠pl l 3:=by have:=q1.le;unfold pl at *;omega
 have n1:l≠pl l 4:=W;have lm:=q1.le;have lm':m<pl m 1:=W;have bF:∀x,x<m->F x=f x:=λx S=>by rw[hF];rw[aE W,aE W,aE W,aE W,aE Z,aE Z,q1.ah x Z,hF0,aE Z]
 have b0':F m=(.row 437 4 0 true [.au,.au,.au,.num 0] (.cf (zf [.au,.au,.au,.num 0]))):=by rw[hF];rw[aE W,aE G,aE W,aE W,aE Z,aE Z,q1.ah m lm',hF0];exact aK ..
 have b0:=(q2.ah m W (by rw[w0 m lm'];unfold PRy PGr;decide)).trans b0';have n2:m≠pl l 4:=W;simp only[go_sem,ox,ox3,IL,oP,b0,n1,n2,n3,n4,n4.symm,g0,g1,z,g3,H2.aEZ.bt];refine fG ?_;intro aEZ hG;have kG:∀x,x≠m->x≠pl l 3->x≠pl l 4->aEZ x=d x:=λx h1 N M=>by rw[hG,aE N,aE h1,aE M]
 have t:Fr (λc=>c=4\/c=0) dm d C dm aEZ C:=⟨Z,Z,λx _ Dp=>kG x (λe=>Dp (.inr (by rw[e,wk m W,w0 m lm']))) (λe=>Dp (.inl (by rw[e];exact hx3.own))) (λe=>Dp (.inl (by rw[e];exact S.own))),λh=>h⟩;have hS:∀c,c≠0->∀x,x<m->dm x≠c:=λc hc x S=>by rw[wk x W,w0 x Z];omega
 refine E _ _ _ ⟨⟨vg2,_,_,r,hr,rfl,(H2.aEZ.ah t I).fs W,bS.fs (own:=dm) (c:=63) (.inr ⟨bl,0,_,ts.length*5,true,_,gl2,rfl,hL.ah t I,vQ r.lf,by have:=H2.n;omega,λj hj=>?_,hl2,by have:=H2.n;exact⟨Z,Z⟩⟩) (hS 63 I),hI2,hnx,H2.n⟩,?_⟩
 .obtain ⟨a,b,rfl,s⟩:∃a b,j=a*5+b/\b<5:=⟨j/5,j%5,Z,Z⟩;rw[dz,hl1 a Z b s,s8 r.lf a Z b s]
 .refine ⟨by have:=q2.le;unfold pl at *;omega,λx S=>?_⟩;rw[kG x Z W W,q2.ah x W (by rw[w0 x Z];unfold PRy PGr;decide),bF x S]
end
variable{d n2:Nat}{v1:V}{c1 c2:ay}
def ajR(x:Operand):fy:=bZ (λe q=>V.cK ((ax x).get e) (λ_ _ _ c=>mN c (λn=>aR (Nat.ble n cO) (q (.num n)) false) (λ_ _=>false)) (q (.num 0)) false)
@[go_sem ↓]def arF(x:Operand)(R e h k):(ajR x).run R e h k=V.cK ((ax x).get e) (λ_ _ _ c=>mN c (λn=>aR (Nat.ble n cO) (k (.num n) h) false) (λ_ _=>false)) (k (.num 0) h) false:=G
@[go_sem ↓]def ae2(x:Operand):aV K .cap [34] [x]=ajR x:=G
def ake(te z jE:Nat)(zs:ay)(s x:Operand):fy:=⟨λ_ e h k=>V.dD ((ax x).get e) (λn=>V.cK ((ax s).get e) (λ_ _ _ _=>false)
 (aR (Nat.beq n 0) (k .au h) (jV n jE (gy (Nat.mul n z) (λm=>dh h zs m (λc=>fH (.row te m 0 false zs c) h (λi h=>k (.sl i 0 n (.less 0 z)) h)))))) false)⟩
@[go_sem ↓]def arZ(te z jE:Nat)(zs)(s x:Operand)(R e h k):(ake te z jE zs s x).run R e h k=V.dD ((ax x).get e) (λn=>V.cK ((ax s).get e) (λ_ _ _ _=>false)
 (aR (Nat.beq n 0) (k .au h) (jV n jE (gy (Nat.mul n z) (λm=>dh h zs m (λc=>fH (.row te m 0 false zs c) h (λi h=>k (.sl i 0 n (.less 0 z)) h)))))) false):=G
@[go_sem ↓]def aaV(s x:Operand):aV K .append [34,3] [s,x]=ake 49 5 40 [.num 0,.num 0,.num 0,.num 0,.num 0] s x:=G
section
variable {f:av} {m:Nat}
def LR{R:Rt}(n:Nat)(hn:n<=8192):
  Cl R.Y 330 [.au,Q n] f m (λu y L=>Fs y m L 49 5 u 0 []/\B f m y L):=by
 intro k b E;have q:¬(n:Int)<0:=Z;have c:IntKind.i64.wrap (0-0)=0:=I;have a:IntKind.i64.wrap ((n:Int)-0)=n:=by rw[Int.sub_zero];exact cB Z
 by_cases h:n=0
 .subst h;have c1:¬(0:Int)<0:=Z;refine cUx func330 ?_;refine zS ?_;exact E _ _ _ ⟨.inl ⟨rfl,rfl,rfl⟩,(B.w (m2:=m) Qe Z)⟩
 have c1:(0:Int)<(n:Int):=Z;refine cUx func330 ?_;simp only[go_sem,q,c,a,c1];have c2:¬n=0:=h;rw[TC c2];unfold jV;rw[cw Z,cw (show Nat.mul n 40<=140737488355328 by grind)];exact E _ _ _ ⟨.inr ⟨m,0,.less 0 5,n*5,false,_,zf [.num 0,.num 0,.num 0,.num 0,.num 0],rfl,Z,W,aK ..,rfl,Z,Z,λj _=>a0Y J1 I j,rfl⟩,(B.w (m2:=m) Qc E1)⟩
def i7.ahD{z n:Nat}{v:V}{cs:ay}(h:i7 f m te z v n cs):∀u∈cs,u≠ .undef:=by
 rcases h with⟨_,_,rfl⟩|⟨_,_,_,_,_,_,_,_,_,_,_,_,_,_,h⟩
 .simp
 trivial
def DR{R:Rt}{z:V}{b:Nat}(A:i7 f m 49 5 v1 d c1)(N:i7 f m 49 5 z n2 c2)(l1:d<=4096)(l2:n2<=4096)(s:b<m){w:Bool}(hf:f b= .row 34 2 0 w zs (.cf (bI [v1,z]))):
  Cl R.Y.Y 244 [.sl b 0 2 (.known 2)] f m (λu y L=>Fs y m L 49 5 u (d+n2) (c1++c2)/\B f m y L):=by
 intro k aEY E;obtain⟨t1,t2,t3,t4⟩:=bV A;obtain⟨j,s2,s3,s4⟩:=bV N;have C:=λq=>A.jD Z q;have H:=λq=>N.jD Z q;have c:IntKind.i64.wrap (0+1)=1:=I;have e1:IntKind.i64.wrap (1+1)=2:=I;have e2:IntKind.i64.wrap (0+(d:Int))=d:=by rw[Int.zero_add];exact cB Z
 have e3:IntKind.i64.wrap ((d:Int)+(n2:Int))=(d+n2:Nat):=Qf;have c1:¬(d:Int)<0:=Z;have c2:¬((d+n2:Nat):Int)<0:=Z;refine cUx func244 ?_;refine zS ?_;refine acv ?_;refine fD _ ?_;unfold iB;refine zS ?_;refine fD _ ?_;unfold iB;refine zS ?_;refine fD _ ?_;unfold iB;simp only[go_sem, ↓ag 330];apply(LR (d+n2) Z).bu;rintro u r l ⟨hu,P⟩;obtain⟨own,p1,M⟩:=hu.to P (λ_=>0) 8;have h:=(P.ah b s).trans hf;have o0:∀x,x<m->own x=0:=λx S=>p1.same x S;simp only[go_sem,M.live];refine acv ?_;refine fD _ ?_;unfold iB;have a:=(A.gr P).src;simp only[go_sem,h,t1,t2,M.live,a];refine dv M (n':=d) A.cells A.ahD Z Z ?_;intro v3 g9 f3 m3 t p;have o:B f m f3 m3:=⟨by have:=p.le;have:=P.le;omega,λx S=>by rw[p.ah x (by have:=P.le;omega) W];exact P.ah x S⟩;have n:=(o.ah b s).trans hf;have sr2:=(N.gr o).src;simp only[go_sem,t.live,c];refine fD _ ?_;unfold iB;simp only[go_sem,n,j,s2,t.live,sr2];refine dv t (n':=n2) N.cells N.ahD Z Z ?_;intro v4 cS g v hv4 i;have e:∀x,x<m->g9 x=0:=λx S=>(p.same x (by have:=P.le;omega)).trans W;have o4:∀x,x<m->cS x=0:=λx S=>(i.same x (by have:=o.le;omega)).trans W;have g4:B f m g v:=⟨by have:=i.le;have:=o.le;omega,λx S=>by rw[i.ah x (by have:=o.le;omega) W];exact o.ah x S⟩;simp only[go_sem,hv4.live,e1];refine fD _ ?_;unfold iB;simp only[go_sem,hv4.live];rw[dz,mG] at hv4;exact E _ _ _ ⟨hv4.fs W,g4⟩
end
end
end Go.Ev.Sy
