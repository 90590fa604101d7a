import Derived.Test.YthpffinbkpnniaaGreatDoorM22
set_option linter.all false
set_option maxRecDepth 100000
namespace Go.Ev.Sy
open Go Go.Ev Go.Proofs
open Tryz
noncomputable section
variable{m t:Nat}{f:av}{xs:ay}
def MZ{T:TI}(h:Dl T=true):iC T.desc=false:=by rw[Uj h];rfl
def wM{ks:List (Nat×Nat)}(hc:ly t (Ci ks)=true)(d:Nat)(h:∀p∈ks,ly p.1 Dl=true/\p.2<xs.length/\∃a:Int,bI xs p.2=Q a):EqS (d+2) t (.agg xs):=by obtain⟨S,l,e,i,M,k,E,g⟩:=nN hc;refine a4T e i M g (d+1) xs λf H=>?_;have R:(f.type,f.offset)∈ks:=Vr;obtain⟨u,b,a,A⟩:=h _ R;obtain⟨j,C,r⟩:=cz u;refine⟨j,Q a,C,λc=>?_,UH u a d⟩;rw[MZ r];show jZ xs f.offset c=_;rw[sy (bT b),←dH b,A]
def a05(t:Nat)(x y:Operand):fy:=⟨λ_ e h k=>cmS t ((ax x).get e) ((ax y).get e) (λb=>lp (jw b) (λv=>k v h))⟩
@[go_sem ↓]def arA(t:Nat)(x y:Operand)(R e h k):(a05 t x y).run R e h k=cmS t ((ax x).get e) ((ax y).get e) (λb=>lp (jw b) (λv=>k v h)):=G
def UD{ks:List (Nat×Nat)}(hc:ly t (Ci ks)=true)(x y:Nat):da K .neq t (.tmp x) (.tmp y)=a05 t (.tmp x) (.tmp y):=by obtain⟨S,l,A,f,M,p,_⟩:=nN hc;rw[CY A W];apply fy.ext;intro R e h k;unfold IP;simp only[A,f,p,sB];rfl
def Il(h:EqS 20 t (.agg xs))(q:Bool->Bool):cmS t (.agg xs) (.agg xs) q=q true:=a5f rfl (h q)
def ES:ly 151 (Ci [(3,0),(3,1),(3,2)])=true:=E7
@[go_sem ↓]def af0(x y:Nat):da K .neq 151 (.tmp x) (.tmp y)=a05 151 (.tmp x) (.tmp y):=UD ES x y
def ZK(h t i:Int)(q:Bool->Bool):cmS 151 (.agg [Q h,Q t,Q i]) (.agg [Q h,Q t,Q i]) q=q true:=by have F:ly 3 Dl=true:=E7;refine Il (wM ES 18 λp g=>?_) q;simp only[fY,lG,or_false] at g;rcases g with rfl|rfl|rfl<;>exact⟨F,J1,_,rfl⟩
def JP{n:Nat}{v w:V}{cs:ay}(A:i7 f m 151 3 v n cs)(N:i7 f m 151 3 w n cs)(hl:n<=100000)(Cr:∀i,i<n->∀j,j<3->∃a:Int,bI cs (i*3+j)=Q a)(R:Rt)(M:Nat)(k):R.Y.call 26 [v,w] (.fn f M) k=k (.bool true) (.fn f M):=by
 obtain⟨S,hT⟩:∃S,k (.bool true) (.fn f M)=S:=W;rw[hT];obtain⟨t1,t2,t3,t4⟩:=bV A;obtain⟨s1,s2,s3,s4⟩:=bV N;have ln1:=λq=>A.jD Z q;have ln2:=λq=>N.jD Z q;refine cUx func26 ?_;refine zS ?_;refine cU (x:=.exit 0) (n:=n+1) (aF0:=λrem e y L=>∃i:Nat,i+rem=n+1/\1<=rem/\y=f/\L=M/\(eg 0).get e=v/\(eg 1).get e=w/\(eg 5).get e=Q i) (E:=λe y L=>y=f/\L=M) ?_ J2 ?_ ?_
 .exact ⟨0,Z,Z,rfl,rfl,E6,E6,E6⟩
 .rintro rem e y L ⟨i,Uu,Hy,rfl,rfl,c,u,r⟩ rr kx C hE;unfold iB;by_cases F:i<n
  case neg=>have yX:¬((i:Int)<(n:Nat)):=Z;simp only[go_sem,c,r,t1,ln1,yX];grind
  have yX:((i:Int)<(n:Nat)):=Z;have ew:IntKind.i64.wrap ((i:Int)+1)=((i+1:Nat):Int):=Qf;obtain⟨b,o,cp,mm,fz,w',P,g,rfl,s,H,nz,p⟩:=A.at F;obtain⟨d,o2,l,mm2,fz2,w2',zs2,z,rfl,LO,hf2,LJ,xm⟩:=N.at F;obtain⟨h,c0⟩:=Cr i F 0 I;obtain⟨t,c1⟩:=Cr i F 1 I;obtain⟨a2,c2⟩:=Cr i F 2 I;have k0:g (o+i*3)=Q h:=(p 0 I).trans c0;have y0:z (o2+i*3)=Q h:=(xm 0 I).trans c0;have k1:g (o+i*3+1)=Q t:=W;have y1:z (o2+i*3+1)=Q t:=W;have k2:g (o+i*3+2)=Q a2:=W;have y2:z (o2+i*3+2)=Q a2:=W;have hcm:=ZK h t a2;refine zS ?_;exact C (rem-1) _ _ _ Z ⟨i+1,Z,Z,rfl,rfl,E6,E6,E6⟩
 .rintro e y L ⟨rfl,rfl⟩;simp only[go_sem];trivial
def Cb:ly 49 (Ci [(3,0),(3,1),(3,2),(3,3),(3,4)])=true:=E7
@[go_sem ↓]def acd(x y:Nat):da K .neq 49 (.tmp x) (.tmp y)=a05 49 (.tmp x) (.tmp y):=UD Cb x y
def RK(h t i n M:Int)(q:Bool->Bool):cmS 49 (.agg [Q h,Q t,Q i,Q n,Q M]) (.agg [Q h,Q t,Q i,Q n,Q M]) q=q true:=by have F:ly 3 Dl=true:=E7;refine Il (wM Cb 18 λp g=>?_) q;simp only[fY,lG,or_false] at g;rcases g with rfl|rfl|rfl|rfl|rfl<;>exact⟨F,J1,_,rfl⟩
def Gp{n:Nat}{v w:V}{cs:ay}(A:i7 f m 49 5 v n cs)(N:i7 f m 49 5 w n cs)(hl:n<=100000)(Cr:∀i,i<n->∀j,j<5->∃a:Int,bI cs (i*5+j)=Q a)(R:Rt)(M:Nat)(k):R.Y.call 29 [v,w] (.fn f M) k=k (.bool true) (.fn f M):=by
 obtain⟨S,hT⟩:∃S,k (.bool true) (.fn f M)=S:=W;rw[hT];obtain⟨t1,t2,t3,t4⟩:=bV A;obtain⟨s1,s2,s3,s4⟩:=bV N;have ln1:=λq=>A.jD Z q;have ln2:=λq=>N.jD Z q;refine cUx func29 ?_;refine zS ?_;refine cU (x:=.exit 0) (n:=n+1) (aF0:=λrem e y L=>∃i:Nat,i+rem=n+1/\1<=rem/\y=f/\L=M/\(eg 0).get e=v/\(eg 1).get e=w/\(eg 5).get e=Q i) (E:=λe y L=>y=f/\L=M) ?_ J2 ?_ ?_
 .exact ⟨0,Z,Z,rfl,rfl,E6,E6,E6⟩
 .rintro rem e y L ⟨i,Uu,Hy,rfl,rfl,c,u,r⟩ rr kx C hE;unfold iB;by_cases F:i<n
  case neg=>have yX:¬((i:Int)<(n:Nat)):=Z;simp only[go_sem,c,r,t1,ln1,yX];grind
  have yX:((i:Int)<(n:Nat)):=Z;have ew:IntKind.i64.wrap ((i:Int)+1)=((i+1:Nat):Int):=Qf;obtain⟨b,o,cp,mm,fz,w',P,g,rfl,s,H,nz,p⟩:=A.at F;obtain⟨d,o2,l,mm2,fz2,w2',zs2,z,rfl,LO,hf2,LJ,xm⟩:=N.at F;obtain⟨h,c0⟩:=Cr i F 0 I;obtain⟨t,c1⟩:=Cr i F 1 I;obtain⟨a2,c2⟩:=Cr i F 2 I;obtain⟨a3,c3⟩:=Cr i F 3 I;obtain⟨a4,c4⟩:=Cr i F 4 I;have k0:g (o+i*5)=Q h:=(p 0 I).trans c0;have y0:z (o2+i*5)=Q h:=(xm 0 I).trans c0;have k1:g (o+i*5+1)=Q t:=W;have y1:z (o2+i*5+1)=Q t:=W;have k2:g (o+i*5+2)=Q a2:=W;have y2:z (o2+i*5+2)=Q a2:=W;have k3:g (o+i*5+3)=Q a3:=W;have y3:z (o2+i*5+3)=Q a3:=W;have k4:g (o+i*5+4)=Q a4:=W;have y4:z (o2+i*5+4)=Q a4:=W;have hcm:=RK h t a2 a3 a4;refine zS ?_;exact C (rem-1) _ _ _ Z ⟨i+1,Z,Z,rfl,rfl,E6,E6,E6⟩
 .rintro e y L ⟨rfl,rfl⟩;simp only[go_sem];trivial
def Ug:ly 153 (Ci [(3,0),(3,1),(3,2),(3,3),(3,4)])=true:=E7
@[go_sem ↓]def alb(x y:Nat):da K .neq 153 (.tmp x) (.tmp y)=a05 153 (.tmp x) (.tmp y):=UD Ug x y
def a8X(h t i n M:Int)(q:Bool->Bool):cmS 153 (.agg [Q h,Q t,Q i,Q n,Q M]) (.agg [Q h,Q t,Q i,Q n,Q M]) q=q true:=by have F:ly 3 Dl=true:=E7;refine Il (wM Ug 18 λp g=>?_) q;simp only[fY,lG,or_false] at g;rcases g with rfl|rfl|rfl|rfl|rfl<;>exact⟨F,J1,_,rfl⟩
def WB{n:Nat}{v w:V}{cs:ay}(A:i7 f m 153 5 v n cs)(N:i7 f m 153 5 w n cs)(hl:n<=100000)(Cr:∀i,i<n->∀j,j<5->∃a:Int,bI cs (i*5+j)=Q a)(R:Rt)(M:Nat)(k):R.Y.call 30 [v,w] (.fn f M) k=k (.bool true) (.fn f M):=by
 obtain⟨S,hT⟩:∃S,k (.bool true) (.fn f M)=S:=W;rw[hT];obtain⟨t1,t2,t3,t4⟩:=bV A;obtain⟨s1,s2,s3,s4⟩:=bV N;have ln1:=λq=>A.jD Z q;have ln2:=λq=>N.jD Z q;refine cUx func30 ?_;refine zS ?_;refine cU (x:=.exit 0) (n:=n+1) (aF0:=λrem e y L=>∃i:Nat,i+rem=n+1/\1<=rem/\y=f/\L=M/\(eg 0).get e=v/\(eg 1).get e=w/\(eg 5).get e=Q i) (E:=λe y L=>y=f/\L=M) ?_ J2 ?_ ?_
 .exact ⟨0,Z,Z,rfl,rfl,E6,E6,E6⟩
 .rintro rem e y L ⟨i,Uu,Hy,rfl,rfl,c,u,r⟩ rr kx C hE;unfold iB;by_cases F:i<n
  case neg=>have yX:¬((i:Int)<(n:Nat)):=Z;simp only[go_sem,c,r,t1,ln1,yX];grind
  have yX:((i:Int)<(n:Nat)):=Z;have ew:IntKind.i64.wrap ((i:Int)+1)=((i+1:Nat):Int):=Qf;obtain⟨b,o,cp,mm,fz,w',P,g,rfl,s,H,nz,p⟩:=A.at F;obtain⟨d,o2,l,mm2,fz2,w2',zs2,z,rfl,LO,hf2,LJ,xm⟩:=N.at F;obtain⟨h,c0⟩:=Cr i F 0 I;obtain⟨t,c1⟩:=Cr i F 1 I;obtain⟨a2,c2⟩:=Cr i F 2 I;obtain⟨a3,c3⟩:=Cr i F 3 I;obtain⟨a4,c4⟩:=Cr i F 4 I;have k0:g (o+i*5)=Q h:=(p 0 I).trans c0;have y0:z (o2+i*5)=Q h:=(xm 0 I).trans c0;have k1:g (o+i*5+1)=Q t:=W;have y1:z (o2+i*5+1)=Q t:=W;have k2:g (o+i*5+2)=Q a2:=W;have y2:z (o2+i*5+2)=Q a2:=W;have k3:g (o+i*5+3)=Q a3:=W;have y3:z (o2+i*5+3)=Q a3:=W;have k4:g (o+i*5+4)=Q a4:=W;have y4:z (o2+i*5+4)=Q a4:=W;have hcm:=a8X h t a2 a3 a4;refine zS ?_;exact C (rem-1) _ _ _ Z ⟨i+1,Z,Z,rfl,rfl,E6,E6,E6⟩
 .rintro e y L ⟨rfl,rfl⟩;simp only[go_sem];trivial
def RL(h t i n:Int)(q:Bool->Bool):cmS 149 (.agg [Q h,Q t,Q i,Q n]) (.agg [Q h,Q t,Q i,Q n]) q=q true:=by
 have e:ly 149 (Ci [(3,0),(147,1)])=true:=E7;have F:ly 3 Dl=true:=E7;have S:ly 147 (Ci [(3,0),(3,1),(3,2)])=true:=E7;have o:ly 147 (szz 3)=true:=E7;obtain⟨v,l,A,k,M,w,E,m⟩:=nN e;refine Il (a4T A k M m 19 _ λf H=>?_) q;have R:(f.type,f.offset)∈ [(3,0),(147,1)]:=Vr;simp only[fY,lG,or_false,Prod.mk.injEq] at R;rcases R with⟨u,b⟩|⟨u,b⟩
 .rw [u,b];obtain⟨j,C,r⟩:=cz F;refine⟨j,Q h,C,λc=>?_,UH F h 18⟩;rw[MZ r];rfl
 .rw [u,b];obtain⟨j,C,r⟩:=cz o;obtain⟨x,d,s,a,_⟩:=nN S;obtain rfl:j=x:=W;refine⟨j,.agg [Q t,Q i,Q n],C,λc=>?_,wM S 17 λp g=>?_⟩
  .rw [a,show j.sz=3 from br r];rfl
  .simp only[fY,lG,or_false] at g;rcases g with rfl|rfl|rfl<;>exact⟨F,J1,_,rfl⟩
@[go_sem ↓]def ace(x y:Nat):da K .neq 149 (.tmp x) (.tmp y)=a05 149 (.tmp x) (.tmp y):=UD (ks:=[(3,0),(147,1)]) E7 x y
def Gq{n:Nat}{v w:V}{cs:ay}(A:i7 f m 149 4 v n cs)(N:i7 f m 149 4 w n cs)(hl:n<=100000)(Cr:∀i,i<n->∀j,j<4->∃a:Int,bI cs (i*4+j)=Q a)(R:Rt)(M:Nat)(k):R.Y.call 28 [v,w] (.fn f M) k=k (.bool true) (.fn f M):=by
 obtain⟨S,hT⟩:∃S,k (.bool true) (.fn f M)=S:=W;rw[hT];obtain⟨t1,t2,t3,t4⟩:=bV A;obtain⟨s1,s2,s3,s4⟩:=bV N;have ln1:=λq=>A.jD Z q;have ln2:=λq=>N.jD Z q;refine cUx func28 ?_;refine zS ?_;refine cU (x:=.exit 0) (n:=n+1) (aF0:=λrem e y L=>∃i:Nat,i+rem=n+1/\1<=rem/\y=f/\L=M/\(eg 0).get e=v/\(eg 1).get e=w/\(eg 5).get e=Q i) (E:=λe y L=>y=f/\L=M) ?_ J2 ?_ ?_
 .exact ⟨0,Z,Z,rfl,rfl,E6,E6,E6⟩
 .rintro rem e y L ⟨i,Uu,Hy,rfl,rfl,c,u,r⟩ rr kx C hE;unfold iB;by_cases F:i<n
  case neg=>have yX:¬((i:Int)<(n:Nat)):=Z;simp only[go_sem,c,r,t1,ln1,yX];grind
  have yX:((i:Int)<(n:Nat)):=Z;have ew:IntKind.i64.wrap ((i:Int)+1)=((i+1:Nat):Int):=Qf;obtain⟨b,o,cp,mm,fz,w',P,g,rfl,s,H,nz,p⟩:=A.at F;obtain⟨d,o2,l,mm2,fz2,w2',zs2,z,rfl,LO,hf2,LJ,xm⟩:=N.at F;obtain⟨h,c0⟩:=Cr i F 0 I;obtain⟨t,c1⟩:=Cr i F 1 I;obtain⟨a2,c2⟩:=Cr i F 2 I;obtain⟨a3,c3⟩:=Cr i F 3 I;have k0:g (o+i*4)=Q h:=(p 0 I).trans c0;have y0:z (o2+i*4)=Q h:=(xm 0 I).trans c0;have k1:g (o+i*4+1)=Q t:=W;have y1:z (o2+i*4+1)=Q t:=W;have k2:g (o+i*4+2)=Q a2:=W;have y2:z (o2+i*4+2)=Q a2:=W;have k3:g (o+i*4+3)=Q a3:=W;have y3:z (o2+i*4+3)=Q a3:=W;have hcm:=RL h t a2 a3;refine zS ?_;exact C (rem-1) _ _ _ Z ⟨i+1,Z,Z,rfl,rfl,E6,E6,E6⟩
 .rintro e y L ⟨rfl,rfl⟩;simp only[go_sem];trivial
def DU(cs:ay):Prop:=∀u∈cs,∃a:Int,u=Q a
def DU.at{cs:ay}{n z:Nat}(h:DU cs)(hl:cs.length=n*z):∀i,i<n->∀j,j<z->∃a:Int,bI cs (i*z+j)=Q a:=by
 intro i F j b;have:i*z+j<cs.length:=by rw[hl];have:=nW z (Nat.succ_le_of_lt F);rw[NV] at this;omega
 rw[dH this];exact h _ W
def yx{α:Type}{c:α->ay}{l:List α}(h:∀x,DU (c x)):DU (l.flatMap c):=λu L=>by obtain⟨x,_,S⟩:=xr.1 L;exact h x u S
def a9y(n:Nat)(k d ge):DU (Io n k d ge):=yx λi u L=>by unfold chC at L;grind
def a9w(F:List Tk):DU (gz F):=yx λi u L=>by unfold Tk.cs at L;grind
def a9x(S:Nat->Option Pc)(os):DU (alC S os):=yx λi u L=>by
 unfold laL at L;split at L
 .trivial
 .unfold laC at L;obtain⟨p,_,g⟩:=xr.1 L;grind
structure Nk(s s':Ms):Prop where
 tk:s.b.tk=s'.b.tk
 n:s.b.n=s'.b.n
 ch:Io s.b.n s.b.ph s.b.ow s.b.ge=Io s'.b.n s'.b.ph s'.b.ow s'.b.ge
 ws:s.b.ws=s'.b.ws
 op:s.b.op=s'.b.op
 acc:s.b.acc=s'.b.acc
 ts:s.b.ts=s'.b.ts
 S:s.S=s'.S
section
variable {own:aG} {f:av} {m:Nat} {s s':Ms} {v w:V}
def OR{R:Rt}(H:StM own f m s v)(hw:StM own f m s' w)(he:Nk s s')(hn:s.b.n<=64)(hws:s.b.ws.length<=64)(DI:s.b.ts.length<=200)(hal:∀ps:aI,ps.Nodup->(∀x∈ps,s.S x≠none)->VC s.S ps<=100000):
  Cl R.Y.Y 14 [v,w] f m (λr y m'=>r= .bool true/\B f m y m'):=by
 intro k T E;obtain⟨vc,vw,vm,vp,vl,e,ps,rfl,N,M,h4,h5⟩:=H.st;obtain⟨vc',vw',vm',vp',vl',os',ps',rfl,z,o,g4,g5⟩:=hw.st;have eo:os'=e:=zX z.o1 N.o1 (λx=>by rw[z.o2 x,N.o2 x,he.op]);have ep:ps'=ps:=zX o M (λx=>by rw[g4 x,h4 x,he.S]);subst eo;subst ep;have c1:=N.fc.1;have c2:=z.fc.1;rw[←he.ch,←he.n] at c2;have i1:=N.fw;have L:=z.fw;rw[←he.ws] at L;have l:=N.fm.1;have C:=z.fm.1;rw[←he.acc] at C;have p1:=N.fp.1;have p2:=z.fp.1;rw[←he.ts] at p2;have c:=h5.1;have a:=g5.1;rw[←he.S] at a;rw[←he.tk];obtain⟨t,a2,a3,a4⟩:=bV c1;obtain⟨b1,b2,b3,b4⟩:=bV c2;obtain⟨d1,d2,d3,d4⟩:=tG i1;obtain⟨u,e2,A,e4⟩:=tG L;obtain⟨x1,x2,x3,h⟩:=bV l;obtain⟨y1,y2,y3,y4⟩:=bV C;obtain⟨z1,z2,z3,z4⟩:=bV p1;obtain⟨d,r2,r3,r4⟩:=bV p2;obtain⟨P,q2,q3,q4⟩:=bV c;obtain⟨o1,o2,o3,o4⟩:=bV a;refine cUx func14 ?_;refine zS ?_;refine ld ?_;intro F hF;have q0:B f m F (pl m 2):=Vy;have n01:m≠pl m 1:=W;have q:F m=(.row 37 6 0 true [.num 0,.au,.au,.au,.au,.au] (.cf (bI [Q s.b.tk,vc,vw,vm,vp,vl]))):=by rw[hF,aE n01];exact aK ..
 have g:F (pl m 1)=(.row 37 6 0 true [.num 0,.au,.au,.au,.au,.au] (.cf (bI [Q s.b.tk,vc',vw',vm',vp',vl']))):=O2;have k1:=JP (c1.gr q0) (c2.gr q0) Z (DU.at (a9y _ _ _ _) c1.cells);have k2:=Ed (i1.gr q0) (L.gr q0) W;have p:=Gq (l.gr q0) (C.gr q0) (by have:=N.o3;omega) (λi hi j hj=>⟨_,tL s.b.acc os' i hi j hj⟩);have EW:=BA s.b.ts;have k4:=Gp (p1.gr q0) (p2.gr q0) Z (DU.at (a9w _) p1.cells);have k5:=WB (c.gr q0) (a.gr q0) (hal _ (M.imp NW) W) (DU.at (a9x _ _) c.cells);simp only[go_sem,k1,k2,p,k4,k5,q,g,d1,d2,u,e2,x1,x2,y1,y2,z1,z2,d,r2,P,q2,o1,o2];grind
def OS(R:Rt)(f)(m:Nat)(e:Int):Cl R.Y.Y 16 [rep e 0 .au [],rep e 0 .au []] f m (λr y L=>r= .bool true/\B f m y L):=by
 intro k S E;unfold rep;refine cUx func16 ?_;refine zS ?_;refine ld ?_;intro F j;have x:B f m F (pl m 2):=Vu;have n:m≠pl m 1:=W;have q:F m=(.row 54 4 0 true [.num 0,.num 0,.au,.str []] (.cf (bI [Q e,Q 0,.au,.str []]))):=by rw[j,aE n];exact aK ..
 have g:F (pl m 1)=(.row 54 4 0 true [.num 0,.num 0,.au,.str []] (.cf (bI [Q e,Q 0,.au,.str []]))):=J3;have s:=Ed (f:=F) (m:=pl m 2) (v:=.au) (w:=.au) (xs:=[]) (.inl ⟨rfl,rfl⟩) (.inl ⟨rfl,rfl⟩) J1;simp only[go_sem,s,q,g];exact E _ _ _ ⟨rfl,x⟩
end
def opL(k A aF1 C:Int)(t:aI)(r:Int):V:=.agg [Q k,Q A,Q aF1,Q C,.str t,Q r]
section
variable {f:av} {m:Nat}
def a3L{R:Rt}{v:V}{xs:dC}(h:ll f m v xs)(hl:xs.length<=1000)(k A aF1 C:Int)(t)(r:Int):
  Cl R.Y 31 [opL k A aF1 C t r,v] f m (λu y L=>(∃c,u=lY k c aF1 C t/\(c=A\/c∈xs))/\B f m y L):=by
 intro kk S E;unfold opL;obtain⟨t1,t2,t3,t4⟩:=tG h;have P:=λq=>h.jD Z q;have n:m≠pl m 1:=W;have x:m≠pl m 2:=W;have e:pl m 1≠pl m 2:=W;by_cases c1:0<r
 case neg=>refine cUx func31 ?_;refine zS ?_;exact E _ _ _ ⟨⟨A,rfl,Z⟩,(B.w (m2:=m) Qd E1)⟩
 by_cases c2:r<=(xs.length:Nat)
 case neg=>have j:¬r<=(xs.length:Int):=c2;refine cUx func31 ?_;refine zS ?_;exact E _ _ _ ⟨⟨A,rfl,Z⟩,(B.w (m2:=m) Qd E1)⟩
 obtain⟨i,rfl⟩:∃i:Nat,r=((i+1:Nat):Int):=⟨r.toNat-1,Z⟩;have F:i<xs.length:=Z;obtain⟨b,o,cp,a,fz,w,zs,g,rfl,s,hf,l,p⟩:=h.at F;have N:IntKind.i64.wrap (((i+1:Nat):Int)-1)=(i:Nat):=Ql;have M:b≠m:=Z;have H:b≠pl m 1:=W;have d:b≠pl m 2:=W;have j:((i+1:Nat):Int)<=(xs.length:Int):=c2;refine cUx func31 ?_;refine zS ?_;exact E _ _ _ ⟨⟨xs[i],rfl,W⟩,(B.w (m2:=m) Qd E1)⟩
def OP(c z:Int):Prop:=¬(12<c/\c<=1048576)/\¬(256<z/\z<=1048576)
def Yy{R:Rt}(c z q l:Int):Cl R.Y 17 [.agg [Q c,Q z,Q q,Q l]] f m (λu a L=>(∃y:Int,u=Q y/\(y≠0->OP c z))/\B f m a L):=by
 intro p S E;have no:∀a L,B f m a L->p (Q 0) (.fn a L)=S:=λa L h=>W;by_cases c1:12<c
 case pos=>
  by_cases c2:c<=1048576
  case pos=>refine cUx func17 ?_;refine zS ?_;exact no _ _ (B.w (m2:=m) Qc E1)
  case neg=>
   by_cases c3:256<z
   case pos=>
    by_cases c4:z<=1048576
    case pos=>refine cUx func17 ?_;refine zS ?_;exact no _ _ (B.w (m2:=m) Qc E1)
    case neg=>refine cUx func17 ?_;refine zS ?_;exact E _ _ _ ⟨⟨1,rfl,λ_=>⟨λh=>c2 h.2,λh=>c4 h.2⟩⟩,(B.w (m2:=m) Qc E1)⟩
   case neg=>refine cUx func17 ?_;refine zS ?_;exact E _ _ _ ⟨⟨1,rfl,λ_=>⟨λh=>c2 h.2,λh=>c3 h.1⟩⟩,(B.w (m2:=m) Qc E1)⟩
 case neg=>
  by_cases c3:256<z
  case pos=>
   by_cases c4:z<=1048576
   case pos=>refine cUx func17 ?_;refine zS ?_;exact no _ _ (B.w (m2:=m) Qc E1)
   case neg=>refine cUx func17 ?_;refine zS ?_;exact E _ _ _ ⟨⟨1,rfl,λ_=>⟨λh=>c1 h.1,λh=>c4 h.2⟩⟩,(B.w (m2:=m) Qc E1)⟩
  case neg=>refine cUx func17 ?_;refine zS ?_;exact E _ _ _ ⟨⟨1,rfl,λ_=>⟨λh=>c1 h.1,λh=>c3 h.1⟩⟩,(B.w (m2:=m) Qc E1)⟩
end
end
end Go.Ev.Sy
namespace Go.Ev.Sy
open Go Go.Ev Go.Proofs
noncomputable section
variable{j:Nat}
def RS.AN(s:RS):∀j i,(s.turns j).ph i=if i∈s.ws.take j then 0 else s.ph i
 |0,i=>G
 |j+1,i=>by
  have H:=RS.AN s j i;have l:=RS.AM j s;show(RS.FY (s.turns j)).ph i=_;unfold RS.FY;by_cases h:j<s.ws.length
  .have f:(s.turns j).ws=s.ws[j]::s.ws.drop (j+1):=by rw[l,AF]
   simp only[f];rw[jr h];unfold ib;grind
  .have f:(s.turns j).ws= []:=by rw[l,FQ Z]
   grind
def GP(F:List Tk)(p:Nat):Nat:=(F.map λt=>if t.s=1/\t.c=p then t.n else 0).sum
def Af(a b:List Tk)(p:Nat):GP (a++b) p=GP a p+GP b p:=by unfold GP;grind
def GN(t:Tk)(p:Nat):GP [t] p=if t.s=1/\t.c=p then t.n else 0:=G
def GO{F:List Tk}(h:j<F.length)(p:Nat):GP F p=GP (F.take j) p+(if F[j].s=1/\F[j].c=p then F[j].n else 0)+GP (F.drop (j+1)) p:=by
 have e:F=F.take j++([F[j]]++F.drop (j+1)):=by rw[List.singleton_append,AF,uC]
 conv=>lhs;rw[e]
 rw[Af,Af,GN];omega
def GM{F:List Tk}(h:j<F.length)(u:Tk)(p:Nat):GP (F.set j u) p+(if F[j].s=1/\F[j].c=p then F[j].n else 0)=GP F p+(if u.s=1/\u.c=p then u.n else 0):=by
 have N:j<(F.set j u).length:=by rw[uG];exact h
 rw[GO h p,GO N p,a1a,List.take_set_of_le Z,List.drop_set_of_lt Z];grind
variable{p:Nat}{os:aI}
structure BI(b:Bs)(ex:Nat->aI):Prop where
 nd:∀p,(b.pu p++ex p).Nodup
 me:∀p,∀i∈b.pu p++ex p,i<b.n/\b.ph i=1/\b.ow i=(p:Nat)+1
 he:∀p,b.op p=true->((b.pu p++ex p).length:Int)<=(b.acc p).h
 cl:∀p,b.op p=false->b.pu p++ex p= []
 cr:∀p,b.op p=true->(GP b.ts p:Int)<=(b.acc p).r
 po:∀t∈b.ts,t.s=1->b.op t.c=true
def a2J{F:List Tk}(h:∀t∈F,¬(t.s=1/\t.c=p)):GP F p=0:=by
 induction F with
 |nil=>rfl
 |cons t F H=>rw[show t::F= [t]++F from rfl,Af,GN,aj W,H W]
def BI.reg{b:Bs}{m:Nat->aI}(h:BI b m)(g:b.op p=false)(c:Int):BI {b with op:=fB b.op p true,cV:=b.cV+1,acc:=kq b.acc p ⟨c,0,0⟩} m:=by
 refine⟨h.nd,h.me,λq N=>?_,λq N=>?_,λq N=>?_,λt o M=>?_⟩
 .show _<=(kq b.acc p ⟨c,0,0⟩ q).h;by_cases e:q=p
  .subst e;rw[dQ,h.cl q g];grind
  .rw [gI e];exact h.he q U0
 .by_cases e:q=p
  .subst e;have:fB b.op q true q=false:=N;rw[fu] at this;trivial
  .exact h.cl q (by have:fB b.op p true q=false:=N;rwa [dn e] at this)
 .show (GP b.ts q:Int)<=(kq b.acc p ⟨c,0,0⟩ q).r;by_cases e:q=p
  .subst e;rw[dQ,a2J (λt o a=>by have:=h.po t o Z;grind)];grind
  .rw [gI e];exact h.cr q U0
 .show fB b.op p true t.c=true;by_cases e:t.c=p
  .rw [e,fu]
  .rw [dn e];exact h.po t o M
def BI.ret{b:Bs}{m:Nat->aI}(h:BI b m)(g:b.op p=true)(S:qk (b.acc p))(h0:(b.acc p).h+(b.acc p).r<=0)(hn:∀t∈b.ts,1<=t.n)(gen):BI {b with gen:=gen,op:=fB b.op p false,cV:=b.cV-1} m:=by
 unfold qk at S;have a:=h.he p g;have P:=h.cr p g;refine⟨h.nd,h.me,λq N=>?_,λq N=>?_,λq N=>?_,λt o M=>?_⟩
 .have N:fB b.op p false q=true:=N;by_cases e:q=p
  .grind
  .rw [dn e] at N;exact h.he q N
 .have N:fB b.op p false q=false:=N;by_cases e:q=p
  .subst e;show b.pu q++m q= [];exact pk Z
  .rw [dn e] at N;exact h.cl q N
 .have N:fB b.op p false q=true:=N;by_cases e:q=p
  .grind
  .rw [dn e] at N;exact h.cr q N
 .show fB b.op p false t.c=true;by_cases e:t.c=p
  .exfalso;have o:t∈b.ts:=o;obtain⟨j,z,rfl⟩:=jm o;have A:=GO z p;grind
  .rw [dn e];exact h.po t o M
def Iz{q:jj}{a:Nat->Acc}{n:Int}(h:q.e (a p) n=0):qi q a p n=kq a p (q.ap (a p) n):=ao h
def BI.ask{b:Bs}{m:Nat->aI}(h:BI b m)(g:b.op p=true)(k i:Nat)(a:jj.Nu.e (b.acc p) k=0):BI {b with acc:=qi .Nu b.acc p k,ts:=b.ts++ [⟨i,p,k,1,0⟩]} m:=by
 rw[Iz a];refine⟨h.nd,h.me,λq N=>?_,h.cl,λq N=>?_,λt o M=>?_⟩
 .show _<=(kq b.acc p _ q).h;have:=h.he q N;by_cases e:q=p
  .subst e;rw[dQ];trivial
  .rw [gI e];trivial
 .show (GP (b.ts++ [⟨i,p,k,1,0⟩]) q:Int)<=(kq b.acc p _ q).r;have:=h.cr q N;rw[Af,GN];by_cases e:q=p
  .subst e;rw[dQ,ao G];show((GP b.ts q+k:Nat):Int)<=(b.acc q).r+k;omega
  .rw [gI e,aj W];trivial
 .rcases fJ.1 o with o|o
  .exact h.po t o M
  grind
def BI.IQ{b:Bs}{m:Nat->aI}(h:BI b m)(z:j<b.ts.length)(hc:b.ts[j].c=p)(M:b.ts[j].s=1)(d:jj.IQ.e (b.acc p) b.ts[j].n=0):BI {b with acc:=qi .IQ b.acc p b.ts[j].n,ts:=b.ts.set j {b.ts[j] with s:=3}} m:=by
 rw[Iz d];refine⟨h.nd,h.me,λq a=>?_,h.cl,λq a=>?_,λt o M=>?_⟩
 .show _<=(kq b.acc p _ q).h;have:=h.he q a;by_cases e:q=p
  .subst e;rw[dQ];trivial
  .rw [gI e];trivial
 .show (GP (b.ts.set j _) q:Int)<=(kq b.acc p _ q).r;have A:=h.cr q a;obtain⟨u,L⟩:∃u:Tk,u=⟨b.ts[j].i,b.ts[j].c,b.ts[j].n,3,b.ts[j].p⟩:=W;rw[←L];have N:=GM z u q;rw[aj (show ¬(u.s=1/\u.c=q) from λh=>W)] at N;by_cases e:q=p
  .subst e;rw[ao G] at N;rw[dQ];show(_:Int)<=(b.acc q).r-(b.ts[j].n:Nat);omega
  .rw [aj Z] at N;rw[gI e];omega
 .rcases FU o with o|rfl
  .exact h.po t o M
  grind
def BI.up{b:Bs}{m:Nat->aI}(h:BI b m)(p:Nat)(cs)(a c:Nat->aI)(N:∀q,q≠p->a q=b.pu q/\c q=m q)(g:(a p++c p++cs).Perm (b.pu p++m p)):BI (vP {b with pu:=a} p cs) c:=by
 have f:=g.nodup_iff.2 (h.nd p);have d:∀i,i∈cs->i∈b.pu p++m p:=λi F=>W;have P:=g.length_eq;rw[eZ] at P;have key:∀q i,i∈a q++c q->i∈b.pu q++m q/\i∉cs:=λq i F=>by
  by_cases e:q=p
  .grind
  .obtain ⟨u,j⟩:=N q e;rw[u,j] at F;refine⟨F,λo=>?_⟩;have A:=(h.me q i F).2.2;have n:=(h.me p i W).2.2;omega
 refine⟨λq=>?_,λq i F=>?_,λq L=>?_,λq L=>?_,λq L=>?_,h.po⟩
 .by_cases e:q=p
  .subst e;exact(jS.1 f).1
  .obtain ⟨u,j⟩:=N q e;show(a q++c q).Nodup;rw[u,j];exact h.nd q
 .obtain ⟨v,s⟩:=key q i F;obtain⟨l,C,k⟩:=h.me q i v;exact⟨l,(aj s).trans C,(aj s).trans k⟩
 .show ((a q++c q).length:Int)<=(kq b.acc p _ q).h;have A:=h.he q L;by_cases e:q=p
  .subst e;rw[dQ];grind
  .obtain ⟨u,j⟩:=N q e;rw[gI e,u,j];trivial
 .show a q++c q= [];have A:=h.cl q L;refine List.eq_nil_iff_forall_not_mem.2 λi F=>?_;grind
 .show (GP b.ts q:Int)<=(kq b.acc p _ q).r;have A:=h.cr q L;by_cases e:q=p
  .subst e;rw[dQ];trivial
  .rw [gI e];trivial
def BI.sub{b:Bs}{m:Nat->aI}(h:BI b m)(a c:Nat->aI)(hn:∀q,(a q++c q).Nodup)(M:∀q,∀i∈a q++c q,i∈b.pu q++m q)(hl:∀q,(a q++c q).length<=(b.pu q++m q).length):BI {b with pu:=a} c:=by
 refine⟨hn,λq i F=>h.me q i W,λq L=>?_,λq L=>?_,h.cr,h.po⟩
 .have A:=h.he q L;grind
 .have N:=hl q;rw[h.cl q L] at N;exact pk W
def BI.anf{b:Bs}{m:Nat->aI}(h:BI b m)(a:∀i∈b.ws,b.ph i=2):BI (sY b) m:=by
 refine⟨h.nd,λp i F=>?_,h.he,h.cl,h.cr,h.po⟩;obtain⟨l,C,s⟩:=h.me p i F;refine⟨l,?_,s⟩;show((RS.mk b.ph b.ge b.xs b.ws).turns (min b.qt b.ws.length)).ph i=1;rw[RS.AN,aj]
 .trivial
 grind
def BI.aqR{b:Bs}{m:Nat->aI}(h:BI b m){t:Tk}(d:xf b.ts t)(ho:b.op t.c=true)(R:jj.uj.e (b.acc t.c) t.n=0){l ys:aI}(hl:l.length=t.n)(H:b.xs=ys++l.reverse)(w:b.xs.Nodup)(S:∀i∈b.xs,i<b.n/\b.ph i=0):BI (gvB b (t.i-1) t l ys) m:=by
 obtain⟨j,z,f,a⟩:=d;have x:t.i-1=j:=Z;rw[x];have o:∀i∈l,i<b.n/\b.ph i=0:=λi F=>W;have P:l.Nodup:=by rw[H] at w;exact W
 have y:∀q i,i∈b.pu q++m q->i∉l:=λq i F hl=>by have A:=(h.me q i F).2.1;grind
 have v:∀q i,i∈dE b.pu t.c (b.pu t.c++l) q++m q->i∈b.pu q++m q\/q=t.c/\i∈l:=λq i F=>by
  by_cases e:q=t.c
  .subst e;rw[cj] at F;grind
  .rw [dd e] at F;grind
 unfold gvB;rw[Iz R];refine⟨λq=>?_,λq i F=>?_,λq N=>?_,λq N=>?_,λq N=>?_,λu L M=>?_⟩
 .show (dE b.pu t.c (b.pu t.c++l) q++m q).Nodup;by_cases e:q=t.c
  .subst e;rw[cj];have hp:(b.pu t.c++l++m t.c).Perm (b.pu t.c++m t.c++l):=by
    rw[pj,pj];exact W
   rw[hp.nodup_iff];exact jS.2 ⟨h.nd _,P,W⟩
  .rw [dd e];exact h.nd q
 .rcases v q i F with k|⟨e,k⟩
  .obtain ⟨m1,C,m3⟩:=h.me q i k;have g:=y q i k;exact⟨m1,(aj g).trans C,(aj g).trans m3⟩
  .rw [e];exact⟨(o i k).1,ao k,ao k⟩
 .show ((dE b.pu t.c (b.pu t.c++l) q++m q).length:Int)<=(kq b.acc t.c _ q).h;have A:=h.he q N;by_cases e:q=t.c
  .subst e;rw[cj,dQ];show _<=(b.acc t.c).h+(t.n:Nat);grind
  .rw [dd e,gI e];trivial
 .have N:b.op q=false:=N;show dE b.pu t.c (b.pu t.c++l) q++m q= [];by_cases e:q=t.c
  .grind
  .rw [dd e];exact h.cl q N
 .show (GP (b.ts.set j ⟨t.i,t.c,t.n,2,t.p⟩) q:Int)<=(kq b.acc t.c _ q).r;have A:=h.cr q N;have E:=GM z ⟨t.i,t.c,t.n,2,t.p⟩ q;rw[a] at E;rw[aj (show ¬((⟨t.i,t.c,t.n,2,t.p⟩:Tk).s=1/\(⟨t.i,t.c,t.n,2,t.p⟩:Tk).c=q) from λh=>W)] at E;by_cases e:q=t.c
  .subst e;rw[ao G] at E;rw[dQ];show(_:Int)<=(b.acc t.c).r-(t.n:Nat);grind
  .rw [aj W] at E;rw[gI e];omega
 .rcases FU L with L|rfl
  .exact h.po u L M
  trivial
def BI.ps1{b:Bs}{m:Nat->aI}(h:BI b m){aF1:Nat}{t:Tk}(o:lU aF1 b.ts t):BI {b with ts:=Bx b.ts t} m:=by
 obtain⟨j,z,f,a,e,d,_⟩:=o;have x:t.i-1=j:=Z;refine⟨h.nd,h.me,h.he,h.cl,λq N=>?_,λu L M=>?_⟩
 .show (GP (Bx b.ts t) q:Int)<=(b.acc q).r;have A:=h.cr q N;unfold Bx;rw[x];have g:=GM z ⟨t.i,t.c,t.n,1,t.p⟩ q;grind
 .have L:u∈Bx b.ts t:=L;unfold Bx at L;rcases FU L with L|rfl
  .exact h.po u L M
  .show b.op t.c=true;rw[a];exact h.po _ W d
def BI.ps{m:Nat->aI}{aF1:Nat}:∀(l:List Tk) (b:Bs),BI b m->(∀t∈l,lU aF1 b.ts t)->(l.map Tk.i).Nodup->BI {b with ts:=Em b.ts l} m
 |[],b,h,_,_=>h
 |u::l,b,h,c,g=>by have a:(u.i::l.map Tk.i).Nodup:=g;rw[iK] at a;have L:=c u (ko ..);exact BI.ps l {b with ts:=Bx b.ts u} (h.ps1 L) (λx S=>(c x (ia _ S)).ps L λe=>a.1 (e▸Ou S)) a.2
def BI.gv{m:Nat->aI}:∀(y:List Tk) (b k:Bs),BI b m->GvR b y k->a0v os b.acc b.xs.length y->(∀t∈y,xf b.ts t)->(y.map Tk.i).Nodup->(∀x∈os,b.op x=true)->b.xs.Nodup->(∀i∈b.xs,i<b.n/\b.ph i=0)->BI k m
 |[],b,k,h,p,_,_,_,_,_,_=>by have e:k=b:=p;grind
 |t::y,b,k,h,p,E,d,g,L,S,f=>by
  obtain⟨l,R,j,H,p⟩:=p;obtain⟨v,s,M,z⟩:=E;have a:(t.i::y.map Tk.i).Nodup:=g;rw[iK] at a;have o:=d t (ko ..);have A:=h.aqR o W s j H S f;have P:R.length+l.length=b.xs.length:=by rw[H];simp
  have w:=S;rw[H] at w;refine BI.gv y _ k A p ?_ (λu r=>?_) W L (jS.1 w).1 (λi F=>?_)
  .show a0v os (qi .uj b.acc t.c t.n) (R.length:Nat) y;grind
  .exact (d u W).gr o W
  .have F:i∈R:=F;obtain⟨q,C⟩:=f i W;refine⟨q,?_⟩;show(if i∈l then 1 else b.ph i)=0;grind
def BI.tick{b k:Bs}{m:Nat->aI}{e:Int}{r:Rs}(h:BI b m)(hid:∀j (h:j<b.ts.length),b.ts[j].i=j+1)(l:∀i∈b.ws,b.ph i=2)(g:∀x,x∈os↔b.op x=true)
  (d:r=iT os e (gJ b.ts).length ⟨[],gJ b.ts,b.acc,(sY b).xs.length⟩) (p:GvR {sY b with ts:=Em b.ts (r.gr++r.lf)} r.gr k) (S:(sY b).xs.Nodup) (R:∀i∈(sY b).xs,i<b.n/\(sY b).ph i=0):BI k m:=by
 obtain⟨v,p2⟩:=GL hid;obtain⟨c,a⟩:=zW os e b.ts (gJ b.ts).length ⟨[],gJ b.ts,b.acc,(sY b).xs.length⟩ 0 G G;rw[←d] at c a;obtain⟨q,s,z,_,_⟩:=Gs os e (gJ b.ts).length ⟨[],gJ b.ts,b.acc,(sY b).xs.length⟩;rw[←d,mG] at s;rw[←s] at z;have N:BI {sY b with ts:=Em b.ts (r.gr++r.lf)} m:=BI.ps (r.gr++r.lf) (sY b) (h.anf l) c a;have f:(r.gr.map Tk.i).Nodup:=by rw[iH] at a;exact W
 exact BI.gv r.gr _ k N p z (λt o=>OZ (r.gr++r.lf) b.ts c a t W) f (λx S=>(g x).1 S) S R
variable{c k0:Nat}{tl:aG}
def jL{α C:Type}{g P:α->List C}:∀{l:List α},(∀k∈l,P k=g k)->l.flatMap P=l.flatMap g
 |[],_=>rfl
 |a::l,h=>by rw[kj,kj,h a (ko ..),jL (λk E=>h k (ia _ E))]
def wI{g P:Nat->aI}:∀{l:aI},l.Nodup->k0∈l->(∀k∈l,k≠k0->P k=g k)->P k0=g k0++ [c]->(l.flatMap P).Perm (c::l.flatMap g)
 |[],_,h,_,_=>G
 |a::l,b,R,h,s=>by
  rw[iK] at b;rw[kj,kj];by_cases e:a=k0
  .subst e;rw[s,jL (g:=g) W,pj];grind
  .rw [h a W e];have R:k0∈l:=by
    rcases fY.1 R with h|h
    .omega
    .exact h
   exact(Oo _ (wI W R W s)).trans List.perm_middle
def z6{g P:Nat->aI}{pre:aI}:∀{l:aI},(∀k∈l,P k=if k∈pre then [] else g k)->l.flatMap P=(l.filter (λk=>!decide (k∈pre))).flatMap g
 |[],_=>rfl
 |a::l,h=>by rw[kj,h a W,z6 (g:=g) (pre:=pre) W,List.filter_cons];grind
def HR{g P:Nat->aI}{pre l:aI}(hl:l.Nodup)(a:pre.Nodup)(M:∀z∈pre,z∈l)(h:∀k∈l,P k=if k∈pre then [] else g k):(l.flatMap P++pre.flatMap g).Perm (l.flatMap g):=by rw[z6 h,←mK];refine List.Perm.flatMap_right g ?_;grind
def Ep(tp:Nat->dC)(k:Nat):aI:=(tp k).map Int.toNat
def exR(to:bs)(tl:aG)(tp:Nat->dC)(p k:Nat):aI:=if to k=true/\tl k=p then Ep tp k else []
def z7(to:bs)(tl:aG)(tp:Nat->dC)(p:Nat):aI:=(List.range 4096).flatMap (exR to tl tp p)
section
variable {to to':bs} {tl tl':aG} {tp tp':Nat->dC}
def adu(h:∀p k,exR to' tl' tp' p k=exR to tl tp p k):z7 to' tl' tp'=z7 to tl tp:=by funext p;exact jL λk _=>W
def a8S{q:Nat}(N:to q=false)(c:Nat):z7 (fB to q true) (dE tl q c) (dE tp q [])=z7 to tl tp:=by
 refine adu λp k=>?_;unfold exR Ep;by_cases e:k=q
 .subst e;rw[cj,cj,N];grind
 .rw [dn e,dd e,dd e]
def a8T{q:Nat}(N:to q=true)(hl:q<4096)(c:Nat):(z7 to tl (dE tp q (tp q++ [(c:Int)])) (tl q)).Perm (c::z7 to tl tp (tl q))/\∀p,p≠tl q->z7 to tl (dE tp q (tp q++ [(c:Int)])) p=z7 to tl tp p:=by
 constructor
 .refine wI (k0:=q) NK W (λk _ e=>?_) ?_
  .unfold exR Ep;rw[dd e]
  .unfold exR Ep;rw[cj,ao G,ao G,iH];rfl
 .intro p g;refine jL λk _=>?_;unfold exR Ep;by_cases e:k=q
  .grind
  .rw [dd e]
def Mu{pre:aI}(g:pre.Nodup)(M:∀z∈pre,to z=true/\tl z=c)(hl:∀k,to k=true->k<4096)(o:∀k,to' k=true↔to k=true/\k∉pre):(z7 to' tl tp c++pre.flatMap (Ep tp)).Perm (z7 to tl tp c)/\∀p,p≠c->z7 to' tl tp p=z7 to tl tp p:=by
 constructor
 .have e:pre.flatMap (Ep tp)=pre.flatMap (exR to tl tp c):=jL λk E=>(ao (M k E)).symm;rw[e];refine HR NK g W λk _=>?_;unfold exR;grind
 .intro p a;refine jL λk _=>?_;unfold exR;grind
def a4Q{pre:aI}(g:pre.Nodup)(M:∀z∈pre,to z=true/\tl z=c)(hl:∀k,to k=true->k<4096):∃r,(r++pre.flatMap (Ep tp)).Perm (z7 to tl tp c):=
 ⟨_,(Mu (to':=λk=>to k&& !decide (k∈pre)) g M hl (λk=>J1)).1⟩
end
def BI.part{b:Bs}{to:bs}{tp:Nat->dC}(h:BI b (z7 to tl tp)){pre:aI}(g:pre.Nodup)(M:∀z∈pre,to z=true/\tl z=c)(hl:∀k,to k=true->k<4096):
  (pre.flatMap (Ep tp)).Nodup/\(∀i∈pre.flatMap (Ep tp),i<b.n/\b.ph i=1/\b.ow i=(c:Nat)+1/\i∉b.pu c)/\(b.op c=true->((pre.flatMap (Ep tp)).length:Int)<=(b.acc c).h):=by
 obtain⟨r,d⟩:=a4Q (tp:=tp) g M hl;have x:=h.nd c;have o:(b.pu c++(r++pre.flatMap (Ep tp))).Perm (b.pu c++z7 to tl tp c):=W;have a:=o.nodup_iff.2 x;have P:=o.length_eq;rw[eZ,eZ] at P;refine⟨W,λi F=>?_,λL=>?_⟩
 .have R:i∈r++pre.flatMap (Ep tp):=W;obtain⟨l,C,s⟩:=h.me c i W;grind
 .have:=h.he c L;omega
def BI.apart{b:Bs}{to:bs}{tp:Nat->dC}(h:BI b (z7 to tl tp))(hl:∀k,to k=true->k<4096):∀pre:aI,pre.Nodup->(∀z∈pre,to z=true)->(pre.flatMap (Ep tp)).Nodup
 |[],_,_=>AI
 |z::l,g,M=>by rw[iK] at g;rw[kj];have C:=M z (ko ..);have A:=h.part (tp:=tp) (pre:=[z]) (c:=tl z) W W hl;rw[kj,Oe,j9] at A;refine jS.2 ⟨W,h.apart hl l W W,λx S y p e=>?_⟩;subst e;obtain⟨w,j,f⟩:=xr.1 p;have i:=M w (ia _ j);have a:z≠w:=λe=>W;have n:=(A.2.1 x S).2.2.1;have N:=h.part (tp:=tp) (pre:=[w]) (c:=tl w) W W hl;rw[kj,Oe,j9] at N;have o:=(N.2.1 x f).2.2.1;have d:tl z=tl w:=Z;have m:=h.part (tp:=tp) (pre:=[z,w]) (c:=tl z) W (λy p=>by grind) hl;grind
def BI.room{b:Bs}{to:bs}{tp:Nat->dC}(h:BI b (z7 to tl tp))(hl:∀k,to k=true->k<4096){pre:aI}(hn:pre.Nodup)(M:∀z∈pre,to z=true):(pre.flatMap tp).length<=b.n:=by
 have e:(pre.flatMap (Ep tp)).length=(pre.flatMap tp).length:=by
  clear hn M
  induction pre with
  |nil=>rfl
  |cons z l H=>rw[kj,kj,eZ,eZ,H];unfold Ep;grind
 rw[←e];refine dg (h.apart hl pre hn M) λx S=>?_;obtain⟨z,C,a⟩:=xr.1 S;have A:=h.part (tp:=tp) (pre:=[z]) (c:=tl z) W W hl;grind
def BI.El{b:Bs}{m:Nat->aI}(h:BI b m)(p:Nat):(b.pu p).Nodup/\(b.pu p).length<=b.n/\(∀i∈b.pu p,i<b.n/\b.ph i=1/\b.ow i=(p:Nat)+1)/\(b.op p=true->((b.pu p).length:Int)<=(b.acc p).h):=by have A:=(jS.1 (h.nd p)).1;have N:∀i∈b.pu p,i<b.n/\b.ph i=1/\b.ow i=(p:Nat)+1:=λi F=>h.me p i W;refine⟨A,dg A W,N,λL=>?_⟩;have:=h.he p L;grind
def BI.ajD{b:Bs}{m:Nat->aI}(h:BI b m)(j:Nat)(z:j<b.ts.length)(M:b.ts[j].s=1):(b.ts[j].n:Int)<=(b.acc b.ts[j].c).r:=by have A:=h.cr _ (h.po _ W M);rw[GO z,ao G] at A;omega
def TH{tp:Nat->dC}{pre:aI}(h:∀k∈pre,∀x∈tp k,0<=x):pre.flatMap tp=(pre.flatMap (Ep tp)).map (λ(x:Nat)=>(x:Int)):=by
 induction pre with
 |nil=>rfl
 |cons z l H=>
  rw[kj,kj,iH,←H W];congr 1;unfold Ep;rw[lE];have s:=h z (ko ..);generalize tp z=l at s
  induction l with
  |nil=>rfl
  |cons x l a=>rw[jn,←a (λy p=>s y (ia _ p))];congr 1;exact(uJ (s x W)).symm
variable{Kp aEY d i i' j' l m:Nat}{own:aG}{F f y:av}
structure MP(u:Su)(s:Ms)(aEY d Kp i j:Nat):Prop where
 bi:BI s.b (z7 s.to s.tl s.tp)
 nn:∀k,s.to k=true->∀x∈s.tp k,0<=x
 n:s.b.n<=12
 hK:aEY<=500*j
 hd:d<=300*j
 hKp:Kp<=i
 gen:∀p,s.b.gen p<=i
 tg:∀p,s.tg p<=i
 tc:s.tc<=i
 cV:s.b.cV<=i
 tsl:s.b.ts.length<=i
 tsp:∀t∈s.b.ts,t.p<=300*j
 i1:i<=60
 j1:j<=100
 un:(s.b.n:Int)=u.c
 uq:(s.b.qt:Int)=u.q
def MP.up{u:Su}{s:Ms}(h:MP u s aEY d Kp i j)(F:i<=i')(z:j<=j')(A:i'<=60)(N:j'<=100):MP u s aEY d Kp i' j':=
 ⟨h.bi,h.nn,h.n,by have:=h.hK;omega,by have:=h.hd;omega,by have:=h.hKp;omega,λp=>cL (h.gen p) F,λp=>cL (h.tg p) F,by have:=h.tc;omega,by have:=h.cV;omega,by have:=h.tsl;omega,λt o=>cL (h.tsp t o) Z,A,N,h.un,h.uq⟩
def kS(own:aG)(f:av)(m M:Nat)(u:Su)(s:Ms)(i j:Nat):Prop:=∃aEY d Kp a,eA own f m M u s aEY s.b.ts.length d Kp a/\MP u s aEY d Kp i j
@[grind] def PDo(c:Nat):Prop:=c≠0/\c≠9/\(c<71\/74<c)
def Nk.rfl(s:Ms):Nk s s:=⟨G,G,G,G,G,G,G,G⟩
structure Aw(own:aG)(f:av)(m M:Nat)(u:Su)(s:Ms)(i j:Nat)(e:Int)(bo:aG)(f':av)(m':Nat)(s':Ms):Prop where
 aF0:kS bo f' m' M u s' i j
 q:Fr PDo own f m bo f' m'
 r:e≠0->Nk s s'
def a0s(w:V):Prop:=w= .au\/∃b o c S,w= .sl b o c S
def iX(own:aG)(f:av)(m M:Nat)(u:Su)(s:Ms)(i j:Nat)(v:V)(y:av)(L:Nat):Prop:=∃(e n:Int) (w:V) (x:aI) (t:aG) (o:Ms),v=rep e n w x/\a0s w/\(e≠0->n=0/\w= .au/\x= [])/\n<=9223372036854775807/\t (pl m 1)=0/\Aw own f m M u s i j e t y L o
def Ml{P:dF}{t:aG}{a L:Nat}(C:∀x,m<=x->own x=0)(b:B f m F a)(hl:m+2<=a)(q:Fr P own F a t y L)(g:∀c,P c->PDo c):Fr PDo own f m t y L/\t (pl m 1)=0:=
 ⟨(b.fr own PDo).trans q (λ_ h=>h) g,(q.same _ G).trans (C _ W)⟩
section
variable {own:aG} {f:av} {m M aEY N d Kp i j:Nat} {u:Su} {s:Ms} {a:mS}
def kS.of(h:eA own f m M u s aEY N d Kp a)(hn:N=s.b.ts.length)(g:MP u s aEY d Kp i j):kS own f m M u s i j:=⟨aEY,d,Kp,a,by rw[←hn];exact h,g⟩
def kS.up(h:kS own f m M u s i j)(F:i<=i')(z:j<=j')(A:i'<=60)(N:j'<=100):kS own f m M u s i' j':=by obtain⟨aEY,d,Kp,a,H,g⟩:=h;exact⟨aEY,d,Kp,a,H,g.up F z A N⟩
def kS.ah{P:dF}{t:aG}{L:Nat}(h:kS own f m M u s i j)(q:Fr P own f m t y L)(g:∀c,PM c->¬P c):kS t y L M u s i j:=by obtain⟨aEY,d,Kp,a,H,h⟩:=h;exact⟨aEY,d,Kp,a,H.ah q g,h⟩
@[grind →] theorem kS.gr{L:Nat}(h:kS own f m M u s i j)(q:B f m y L):kS own y L M u s i j:=h.ah (q.fr own (λ_=>False)) (λ_ _=>id)
def kS.z(h:kS own f m M u s i j):∀x,m<=x->own x=0:=by obtain⟨aEY,d,Kp,a,H,h⟩:=h;exact H.b.z
def pm0:∀c,PM c->¬(c=0):=λc h=>by unfold PM PBr PR PS PZ PF PV at h;omega
def Aw.fin{e:Int}{t:aG}{b a:av}{L y:Nat}{s':Ms}(h:Aw own f m M u s i j e t b l s')(p:m<=y)(o:t y=0)(q:kR b l a L y):Aw own f m M u s i j e t a L s':=
 ⟨h.aF0.ah (q.fr o) pm0,⟨cL h.q.le q.le,h.q.same,λx S g=>by rw[q.eq x (bW S h.q.le) Z];exact h.q.ah x S g,λc x S=>h.q.z c x (cL q.le S)⟩,h.r⟩
def Aw.no{e:Int}{L:Nat}(h:kS own f m M u s i j)(q:B f m y L):Aw own f m M u s i j e own y L s:=
 ⟨h.gr q,q.fr own _,λ_=>Nk.rfl s⟩
def eA.fB{P:dF}{n:aG}{L e:Nat}{k:Bs}{j:nC}(h:eA own f m M u s aEY N d Kp a)(q:Fr P own f m n y L)(g:∀c,(c=9\/PZ c\/c=55\/PV c)->¬P c)(o:cY n y L a.X k l e i j):eA n y L M u {s with b:=k} l e i Kp {a with b:=j}:=
 ⟨h.aM.ah q W,o,h.t.ah q W W,h.p.ah q W⟩
def Q2(own:aG)(f:av)(m M:Nat)(u:Su)(s:Ms)(i j:Nat)(v:V)(r:av)(l:Nat):Prop:=∃(n e:Int) (t:aG) (o:Ms),v= .cI [Q n,Q e]/\n<=9223372036854775807/\t (pl m 1)=0/\Aw own f m M u s i j e t r l o
def abk{v:V}(h:∃(n e:Int) (r:av) (l:Nat),Q2 own f m M u s i j (.cI [Q n,Q e]) r l/\v=(if e=0 then rep 0 n .au [] else rep e 0 .au [])/\kR r l y c (pl m 1)):iX own f m M u s i j v y c:=by
 obtain⟨n,e,r,l,⟨F,k,t,o,H,g,L,P⟩,rfl,a⟩:=h;have d:=V.cI.inj H;injection d with A N;injection N with N _;rw[QJ] at A N;subst A;subst N;by_cases b:e=0
 .rw [ao b];subst b;exact⟨0,n,.au,[],t,o,rfl,.inl rfl,Z,g,L,P.fin W L a⟩
 .rw [aj b];exact⟨e,0,.au,[],t,o,rfl,.inl rfl,λ_=>G,I,L,P.fin W L a⟩
def Q1(own:aG)(f:av)(m M:Nat)(u:Su)(s:Ms)(i j:Nat)(v:V)(r:av)(l:Nat):Prop:=∃(e:Int) (t:aG) (o:Ms),v=Q e/\t (pl m 1)=0/\Aw own f m M u s i j e t r l o
def agd{v:V}{a:Nat}(h:∃(e:Int) (r:av) (l:Nat),Q1 own f m M u s i j (Q e) r l/\v=rep e 0 .au []/\kR r l y a (pl m 1)):iX own f m M u s i j v y a:=by obtain⟨e,r,l,⟨b,t,o,H,L,P⟩,rfl,n⟩:=h;rw[QJ] at H;subst H;exact⟨e,0,.au,[],t,o,rfl,.inl rfl,λ_=>G,I,L,P.fin W L n⟩
def abl{e n:Int}{w:V}{x:aI}{L:Nat}(h:kS own f m M u s i j)(q:B f m y L)(l:a0s w)(b:e≠0->n=0/\w= .au/\x= [])(hn:n<=9223372036854775807):iX own f m M u s i j (rep e n w x) y L:=
 ⟨e,n,w,x,own,s,rfl,l,b,hn,h.z _ W,Aw.no h q⟩
def Wo{e:Int}{L:Nat}(h:kS own f m M u s i j)(q:B f m y L):iX own f m M u s i j (rep e 0 .au []) y L:=abl h q (.inl rfl) (λ_=>G) I
end
section
variable {own:aG} {f:av} {m M i j:Nat} {u:Su} {s:Ms}
def JK{R:Rt}(H:kS own f m M u s i j)(hi:i<60)(hj:j<100)(k A aF1 C:Int)(t):
  Cl R.Y.Y.Y.Y.Y.Y.Y 79 [.ptr M 0,lY k A aF1 C t] f m (iX own f m M u s (i+1) (j+1)):=by
 have S:=H;obtain⟨aEY,d,P,a,H,g⟩:=H;refine(Hh (R:=R.Y.Y.Y.Y) H k A aF1 C t (Q2 own f m M u s (i+1) (j+1)) λF x=>?_).mono λv y m' h=>abk h;have w:=H.gr x;refine(Is (R:=R) w.b A (by have:=g.cV;omega) (λp=>W4)).mono ?_;intro v r l N;by_cases c:1<=A/\A<=s.b.n
 .rw [ao c] at N;obtain⟨p,rfl,L,e,⟨a',hB⟩,q⟩:=N;obtain⟨E,w2⟩:=Ml H.b.z x W q W;have hg:=g.gen p;refine⟨⟨_,_,own,_,rfl,D7,w2,kS.of (w.fB q W hB) rfl (?_),E,Z⟩,W,own,_,q,W,W⟩;exact⟨g.bi.reg L A,g.nn,g.n,K6,Ja,N4,λp=>eh (g.gen p),λp=>eh (g.tg p),eh g.tc,NU g.cV,eh g.tsl,λt o=>Y4,Z,Z,g.un,g.uq⟩
 .rw [aj c] at N;obtain⟨rfl,q⟩:=N;exact⟨⟨_,_,own,s,rfl,I,H.b.z _ W,Aw.no (S.up Z Z Z Z) (x.trans q)⟩,W,own,(λ_=>False),q.fr _ _,id,id⟩
def abq{R:Rt}(H:kS own f m M u s i j)(hi:i<60)(hj:j<100)(k A aF1 C:Int)(N:A<=9223372036854775807)(t):
  Cl R.Y.Y.Y.Y.Y.Y.Y.Y.Y 81 [.ptr M 0,lY k A aF1 C t] f m (iX own f m M u s (i+1) (j+1)):=by
 have S:=H;obtain⟨c,d,P,a,H,g⟩:=H;refine(a7W (R:=R.Y.Y.Y.Y.Y.Y) H k A aF1 C t (Q2 own f m M u s (i+1) (j+1)) λF x=>?_).mono λv y L h=>abk h;have w:=H.gr x;have Hx:=g.tsl;refine(a9n (R:=R) w.b A aF1 N Z).mono ?_;rintro v r l (⟨e,he,rfl,q⟩|⟨rfl,hc,n,rfl,hr,bo,⟨a',hB⟩,q⟩)
 .exact ⟨⟨_,_,own,s,rfl,I,H.b.z _ W,Aw.no (S.up Z Z Z Z) (x.trans q)⟩,W,own,(λ_=>False),q.fr _ _,id,id⟩
 .obtain ⟨E,w2⟩:=Ml H.b.z x W q W;have hM:=w.fB q W hB;refine⟨⟨_,_,bo,_,rfl,Z,w2,kS.of hM W ?_,E,Z⟩,W,bo,_,q,W,W⟩;refine⟨g.bi.ask hc.2.1 n _ hr,g.nn,g.n,K6,Ja,N4,λp=>eh (g.gen p),λp=>eh (g.tg p),eh g.tc,eh g.cV,?_,λt o=>?_,Z,Z,g.un,g.uq⟩
  .grind
  .rcases fJ.1 o with o|o
   .have:=g.tsp t o;omega
   grind
def a6Y{R:Rt}(H:kS own f m M u s i j)(k A aF1 C:Int)(N:A<=9223372036854775807)(t):
  Cl R.Y.Y.Y.Y.Y.Y.Y 92 [.ptr M 0,lY k A aF1 C t] f m (iX own f m M u s i j):=by
 have S:=H;obtain⟨c,d,P,a,H,g⟩:=H;refine(a3j (R:=R.Y.Y.Y.Y) H k A aF1 C t (Q2 own f m M u s i j) λF n=>?_).mono λv y L h=>abk h;have w:=H.gr n;refine(a5t (R:=R) w.b A N).mono ?_;rintro v r l ⟨⟨x,e,rfl,o⟩,q⟩;exact⟨⟨_,_,own,s,rfl,o,H.b.z _ W,Aw.no S (n.trans q)⟩,W,own,(λ_=>False),q.fr _ _,id,id⟩
def Ws{R:Rt}(H:kS own f m M u s i j)(hi:i<60)(hj:j<100)(k A aF1 C:Int)(N:A<=9223372036854775807)(t):
  Cl R.Y.Y.Y.Y.Y.Y.Y.Y.Y 82 [.ptr M 0,lY k A aF1 C t] f m (iX own f m M u s (i+1) (j+1)):=by
 have S:=H;obtain⟨c,d,Kp,a,H,g⟩:=H;refine(PI (R:=R.Y.Y.Y.Y.Y.Y) H k A aF1 C t (Q1 own f m M u s (i+1) (j+1)) λF x=>?_).mono λv y L h=>agd h;have w:=H.gr x;have hd:=g.hd;refine(Sv (R:=R) w.b A aF1 N Z (λj hj hs=>g.bi.ajD j hj hs)).mono ?_;rintro v r l (⟨e,he,rfl,q⟩|⟨rfl,hc,n,hn,hnc,hns,bo,⟨a',hB⟩,q⟩)
 .exact ⟨⟨_,own,s,rfl,H.b.z _ W,Aw.no (S.up Z Z Z Z) (x.trans q)⟩,W,own,(λ_=>False),q.fr _ _,id,id⟩
 .obtain ⟨E,w2⟩:=Ml H.b.z x W q W;have hM:=w.fB q W hB;have P:=g.bi.ajD n hn hns;have Up:=w.b.ue.s.ok (hP A) hc.2.1;have ht1:=(w.b.bk.ok _ (eL hn)).2.2.1;refine⟨⟨_,bo,_,rfl,w2,kS.of hM W ?_,E,Z⟩,W,bo,_,q,W,W⟩;rw[hnc] at P;refine⟨g.bi.IQ hn hnc hns (a5e Up Z P),g.nn,g.n,K6,Z,N4,λp=>eh (g.gen p),λp=>eh (g.tg p),eh g.tc,eh g.cV,?_,λt o=>?_,Z,Z,g.un,g.uq⟩
  .show (s.b.ts.set n _).length<=_;rw[uG];exact eh g.tsl
  .rcases FU o with o|rfl
   .have:=g.tsp t o;omega
   .have:=g.tsp _ (eL hn);grind
end
variable{tP:Int->Int}{tc:Nat}{tg:aG}
section
variable {own:aG} {f:av} {m M aEY N d Kp i j:Nat} {u:Su} {s:Ms} {a:mS}
def eA.lt4(h:eA own f m M u s aEY N d Kp a):∀k,s.to k=true->k<4096:=λk E=>bW (h.t.fo.s.lt E) h.t.fo.s.fr
def eA.agv{P:dF}{i:aG}{L:Nat}{to:bs}{tp:Nat->dC}{e:tX}(h:eA own f m M u s aEY N d Kp a)(q:Fr P own f m i y L)(g:∀c,(PBr c\/PV c)->¬P c)(o:fX i y L a.aEU tg to tc tP tl tp e):eA i y L M u {s with tg:=tg,to:=to,tc:=tc,tP:=tP,tl:=tl,tp:=tp} aEY N d Kp {a with t:=e}:=
 ⟨h.aM.ah q (g _ (.inl (.inr (.inl rfl)))),h.b.ah q (λc F=>W),o,h.p.ah q (λc F=>W)⟩
def MP.tree{i' j':Nat}(g:MP u s aEY d Kp i j)(L:s.to p=false)(c:Nat)(tP)(F:i<60)(z:j<100):MP u {s with to:=fB s.to p true,tc:=s.tc+1,tP:=tP,tl:=dE s.tl p c,tp:=dE s.tp p []} aEY d Kp (i+1) (j+1):=by
 refine⟨?_,λk E x S=>?_,g.n,K6,Ja,N4,λp=>eh (g.gen p),λp=>eh (g.tg p),NU g.tc,eh g.cV,eh g.tsl,λt o=>Y4,Z,Z,g.un,g.uq⟩
 .show BI s.b (z7 (fB s.to p true) (dE s.tl p c) (dE s.tp p []));rw[a8S L];exact g.bi
 .have E:fB s.to p true k=true:=E;have S:x∈dE s.tp p [] k:=S;by_cases e:k=p
  .subst e;rw[cj] at S;trivial
  .rw [dd e] at S;rw[dn e] at E;exact g.nn k E x S
def a70{R:Rt}(H:kS own f m M u s i j)(P:i<60)(z:j<100)(k A aF1 C:Int)(N:A<=9223372036854775807)(t):
  Cl R.Y.Y.Y.Y.Y.Y.Y.Y 83 [.ptr M 0,lY k A aF1 C t] f m (iX own f m M u s (i+1) (j+1)):=by
 have S:=H;obtain⟨aEY,d,Kp,a,H,g⟩:=H;refine(a3l (R:=R) H N (by have:=g.tc;omega) (λp=>G5)).mono ?_;rintro v y m' (⟨e,b,rfl,q⟩|⟨p,bo,r,l,rfl,x,L,F,⟨ta,E⟩,q,w,n⟩)
 .exact Wo (S.up Z Z Z Z) q
 have hg:=g.tg p;have h:=H.agv q (λc F=>P8) E;exact⟨0,_,.au,[],bo,_,rfl,.inl rfl,Z,D7,w,Aw.fin ⟨kS.of G rfl (g.tree (i':=i) (j':=j) L _ _ P z),q.mono (λc F=>C3),Z⟩ O6 w n⟩
def a1N{R:Rt}(H:kS own f m M u s i j)(P:i<60)(z:j<100)(k A aF1 C:Int)(N:A<=9223372036854775807)(t):
  Cl R.Y.Y.Y.Y.Y.Y.Y.Y.Y 84 [.ptr M 0,lY k A aF1 C t] f m (iX own f m M u s (i+1) (j+1)):=by
 have S:=H;obtain⟨aEY,d,Kp,a,H,g⟩:=H;refine(XL (R:=R) H N (by have:=g.tc;omega) (λp=>G5) (λp=>W4)).mono ?_;rintro v y m' (⟨e,b,rfl,q⟩|⟨p,bo,r,l,rfl,x,L,F,Dm,⟨ta,E⟩,q,w,n⟩)
 .exact Wo (S.up Z Z Z Z) q
 have hg:=g.tg p;have h:=H.agv q (λc F=>P8) E;exact⟨0,_,.au,[],bo,_,rfl,.inl rfl,Z,D7,w,Aw.fin ⟨kS.of G rfl (g.tree (i':=i) (j':=j) L _ _ P z),q.mono (λc F=>C3),Z⟩ O6 w n⟩
def Wr{R:Rt}(H:kS own f m M u s i j)(hi:i<60)(z:j<100)(k A aF1 C:Int)(N:A<=9223372036854775807)(t):
  Cl R.Y.Y.Y.Y.Y.Y.Y.Y 80 [.ptr M 0,lY k A aF1 C t] f m (iX own f m M u s (i+1) (j+1)):=by
 have S:=H;obtain⟨aEY,d,Kp,a,H,g⟩:=H;refine(PG (R:=R) H N (λp=>W4) (λp=>G5)).mono ?_;rintro v y L (⟨e,he,rfl,q⟩|⟨bo,r,l,rfl,F,E,hcn,⟨a',P⟩,q,w,hL⟩)
 .exact Wo (S.up Z Z Z Z) q
 have h:=H.fB q (λc F=>by unfold PZ PF PV at F;unfold PA;omega) P;have x:=H.b.ue.s.ok (hP A) F.1.2.1;refine⟨0,_,.au,[],bo,_,rfl,.inl rfl,Z,I,w,Aw.fin ⟨kS.of G rfl (?_),q.mono (λc F=>by unfold PA at F;unfold PDo;omega),Z⟩ O6 w hL⟩;refine⟨g.bi.ret F.1.2.1 x E (λt o=>(H.b.bk.ok t o).2.2.1) _,g.nn,g.n,K6,Ja,N4,λp=>?_,λp=>eh (g.tg p),eh g.tc,?_,eh g.tsl,λt o=>Y4,Z,Z,g.un,g.uq⟩
 .show vV s.b.gen (hP A) (s.b.gen (hP A)+1) p<=i+1;have h1:=g.gen p;have h2:=g.gen (hP A);unfold vV;grind
 .show s.b.cV-1<=i+1;have:=g.cV;omega
def a71{R:Rt}(H:kS own f m M u s i j)(k A aF1 C:Int)(N:A<=9223372036854775807)(t):
  Cl R.Y.Y.Y.Y.Y.Y.Y.Y 89 [.ptr M 0,lY k A aF1 C t] f m (iX own f m M u s i j):=by
 have S:=H;obtain⟨aEY,d,Kp,a,H,g⟩:=H;refine(a3m (R:=R) H N).mono ?_;rintro v y L ⟨⟨e,x,rfl,b⟩,q⟩;exact abl S q (.inl rfl) (λh=>W) I
def a1M{R:Rt}(H:kS own f m M u s i j)(k A aF1 C:Int)(N:A<=9223372036854775807)(t):
  Cl R.Y.Y.Y.Y.Y 91 [.ptr M 0,lY k A aF1 C t] f m (iX own f m M u s i j):=by
 have S:=H;obtain⟨aEY,d,Kp,a,H,g⟩:=H;refine(XK (R:=R) H k A aF1 C t N).mono ?_;rintro v y L ⟨⟨e,rfl|⟨w,rfl,l⟩⟩,q⟩
 .exact Wo S q
 .exact abl S q l Z I
def cY.ano{X n':Nat}{b:Bs}{j:nC}{L:Nat}(h:cY own f m X b aEY N d j)(q:Fr PS own f m own y L)(M:i9 own y L j.r.S b.n b.sz aEY b.ph b.ow b.ge b.xs j.r.A):cY own y L X b aEY N d j:=
 have e:∀c,(c=5\/c=9\/c=22\/c=28\/c=29\/(31<=c/\c<=43)\/(100<=c/\c<164))->¬PS c:=λc h=>X4
 ⟨h.aX.ah q W,h.ue.ah q W,⟨h.re.aC.ah q W,h.re.tr.ah q W,M,h.re.ln.ah q W,h.re.nx,h.re.wa.ah q W,h.re.ct.ah q W,h.re.rc,h.re.tk,h.re.ws,h.re.no3,h.re.q1,h.re.q2⟩,h.bk.ah q W,h.qu.ah q W,h.pu.ah q W (λc a g=>W)⟩
def a1L{R:Rt}(H:kS own f m M u s i j)(k A aF1 C:Int)(N:A<=9223372036854775807)(t)(o:∀b∈t,b<256)(hl:t.length<=9223372036854775807):
  Cl R.Y.Y.Y.Y.Y.Y.Y.Y.Y 88 [.ptr M 0,lY k A aF1 C t] f m (iX own f m M u s i j):=by
 have S:=H;obtain⟨aEY,d,Kp,a,H,g⟩:=H;refine(XJ (R:=R) H N (λp=>by have:=g.gen p;have:=g.i1;omega) o hl).mono ?_;rintro v y L ⟨e,r,l,rfl,x,q,n⟩;have E:=H.fB q (λc F=>by unfold PZ PF PV at F;unfold PS;omega) (H.b.ano (n':=0) q x);have w:own (pl m 1)=0:=H.b.z _ O6;exact⟨e,0,.au,[],own,s,rfl,.inl rfl,λh=>G,I,w,Aw.fin ⟨kS.of G rfl G,q.mono (λc F=>by unfold PS at F;unfold PDo;omega),λh=>Nk.rfl s⟩ O6 w n⟩
end
def KX{l g:aI}(h:l.map (λ(x:Nat)=>(x:Int))=g.map (λ(x:Nat)=>(x:Int))):l=g:=
 (List.map_inj_right W).1 h
section
variable {own:aG} {f:av} {m M aEY N d Kp i j:Nat} {u:Su} {s:Ms} {a:mS}
def a73{R:Rt}(H:kS own f m M u s i j)(hi:i<60)(hj:j<100)(k A aF1 C:Int)(N:A<=9223372036854775807)(t):
  Cl R.Y.Y.Y.Y.Y.Y.Y.Y.Y.Y.Y.Y 87 [.ptr M 0,lY k A aF1 C t] f m (iX own f m M u s (i+1) (j+1)):=by
 have S:=H;obtain⟨aEY,d,Kp,a,H,g⟩:=H;refine(a3n (R:=R.Y.Y.Y.Y.Y.Y.Y.Y.Y) H k A aF1 C t (Q1 own f m M u s (i+1) (j+1)) λF x=>?_).mono λv y L h=>agd h;have w:=H.gr x;have hn:=g.n;have hK:=g.hK;have hd:=g.hd;have c:=g.hKp;refine(a5v (R:=R) w.b A aF1 N (λp=>Y8) Z (λp=>(g.bi.El p).1) (λp=>(g.bi.El p).2.2.1) (λp=>(g.bi.El p).2.2.2)).mono ?_;rintro v r l (⟨e,he,rfl,q⟩|⟨rfl,hc,n,rfl,h1,h2,P,⟨a',hB⟩,q⟩)
 .exact ⟨⟨_,own,s,rfl,H.b.z _ W,Aw.no (S.up Z Z Z Z) (x.trans q)⟩,W,own,(λ_=>False),q.fr _ _,id,id⟩
 obtain⟨E,w2⟩:=Ml H.b.z x W q W;have hM:=w.fB q W hB;have h12:=(g.bi.El (hP A)).2.1;refine⟨⟨_,P,_,rfl,w2,kS.of G rfl (?_),E,Z⟩,W,P,_,q,W,W⟩;refine⟨g.bi.up (hP A) ((s.b.pu (hP A)).take n) (dE s.b.pu (hP A) ((s.b.pu (hP A)).drop n)) (z7 s.to s.tl s.tp) (λq hq=>⟨dd hq,rfl⟩) ?_,g.nn,g.n,Z,Z,Z,λp=>eh (g.gen p),λp=>eh (g.tg p),eh g.tc,eh g.cV,eh g.tsl,λt o=>Y4,Z,Z,g.un,g.uq⟩;rw[cj];refine List.perm_append_comm.trans ?_;rw[←pj,uC]
def a74{R:Rt}(H:kS own f m M u s i j)(hi:i<60)(z:j<100)(k A aF1 C:Int)(hA:A<=9223372036854775807)(t):
  Cl R.Y.Y.Y.Y.Y.Y.Y.Y.Y.Y.Y.Y 86 [.ptr M 0,lY k A aF1 C t] f m (iX own f m M u s (i+1) (j+1)):=by
 have S:=H;obtain⟨aEY,d,Kp,a,H,g⟩:=H;have hn:=g.n;have hK:=g.hK;have hd:=g.hd;have hkp:=g.hKp;refine(a3o (R:=R) H hA (λp=>G5) (λp=>W4) Z (λp=>Y8) (λl h1 N=>cL (g.bi.room H.lt4 h1 N) Z) (λc pre hpn hs=>?_)).mono ?_
 .obtain ⟨p1,p2,p3⟩:=g.bi.part hpn hs H.lt4;exact⟨pre.flatMap (Ep s.tp),TH (λk E=>g.nn k W),p1,p2,p3⟩
 rintro v y L (⟨e,he,rfl,q⟩|⟨pre,cs,bo,f1,m1,o,a',h,rfl,hpn,hs,r,F,hb,P,x,hto,htg,htc,hM,q,w,hL⟩)
 .exact Wo (S.up Z Z Z Z) q
 have ecs:cs=pre.flatMap (Ep s.tp):=KX (r.symm.trans (TH (λk E=>g.nn k W)));obtain⟨p1,p2,p3⟩:=g.bi.part hpn hs H.lt4;rw[←ecs] at p1 p2;have zy:cs.length<=s.b.n:=dg p1 W;obtain⟨e1,e2⟩:=Mu (tp:=s.tp) (to':=o.to) hpn hs H.lt4 hto;have ets:o.b.ts=s.b.ts:=by rw[hb];rfl
 rw[←ets] at hM;refine⟨0,_,.au,[],bo,_,rfl,.inl rfl,Z,Z,w,Aw.fin ⟨kS.of Z rfl (?_),q.mono W,Z⟩ W w hL⟩;refine⟨?_,λk E=>?_,by rw[hb];exact g.n,Z,Z,Z,λp=>by rw[hb];exact eh (g.gen p),λp=>cL W (NU (g.tg p)),cL htc (eh g.tc),by rw[hb];exact eh g.cV,G3,λt ht=>G6,Z,Z,by rw[hb];exact g.un,by rw[hb];exact g.uq⟩
 .rw [hb,P,x];refine g.bi.up (hP h) cs s.b.pu (z7 o.to s.tl s.tp) W ?_;rw[pj,ecs];exact Oo _ e1
 .rw [x];exact g.nn k W
def abp{R:Rt}(H:kS own f m M u s i j)(F:i<60)(z:j<100)(k A aF1 C:Int)(N:A<=9223372036854775807)(hC:C<=9223372036854775807)(t):
  Cl R.Y.Y.Y.Y.Y.Y.Y.Y.Y 85 [.ptr M 0,lY k A aF1 C t] f m (iX own f m M u s (i+1) (j+1)):=by
 have H0:=H;obtain⟨aEY,d,Kp,a,H,g⟩:=H;have hn:=g.n;have hK:=g.hK;have hd:=g.hd;have hkp:=g.hKp;have h1:∀k,s.to k=true->(∀x∈s.tp k,∃i:Nat,x=i/\i<s.b.n)/\(s.tp k).length<=s.b.n:=λk E=>by have p0:=g.bi.room (pre:=[k]) H.lt4 W W;obtain⟨_,p2,_⟩:=g.bi.part (tp:=s.tp) (pre:=[k]) (c:=s.tl k) W W H.lt4;rw[kj,Oe,j9] at p0 p2;refine⟨λx S=>⟨x.toNat,(uJ (g.nn k E x S)).symm,(p2 _ (Ou S)).1⟩,p0⟩
 refine(a7V (R:=R) H N hC (λp=>W4) (λp=>Y8) W W (λp i F=>((g.bi.El p).2.2.1 i F).1) Z).mono ?_;rintro v y L ⟨e,n,bo,r,m1,o,a',Kp',rfl,hn9,he,azi,hM,q,w,hL,htg,hto,htc,Hx,a4h⟩;have ets:o.b.ts=s.b.ts:=R7;have e0:o.b={s.b with pu:=o.b.pu}:=R7;rw[←ets] at hM;refine⟨e,n,.au,[],bo,_,rfl,.inl rfl,λh=>W,hn9,w,Aw.fin ⟨kS.of G rfl (?_),q.mono W,λh=>?_⟩ W w hL⟩
 .refine ⟨?_,λk E=>?_,W,Z,Z,Z,λp=>by rw[e0];exact eh (g.gen p),λp=>by rw[htg];exact eh (g.tg p),by rw[htc];exact eh g.tc,by rw[e0];exact eh g.cV,G3,λt ht=>G6,Z,Z,by rw[e0];exact g.un,by rw[e0];exact g.uq⟩
  .rw [hto,Hx];rcases a4h with⟨hb,htp⟩|⟨c,l,Dm,E,hpu,hb,htp|htp⟩
   .rw [hb,htp];exact g.bi
   .rw [hb,htp];have sub:∀q,(dE s.b.pu (s.tl (hP A)) l q++z7 s.to s.tl s.tp q).Sublist (s.b.pu q++z7 s.to s.tl s.tp q):=λq=>by
     by_cases e:q=s.tl (hP A)
     .subst e;rw[cj,hpu];grind
     .rw [dd e];grind
    exact g.bi.sub _ _ (λq=>(g.bi.nd q).sublist W) W W
   .rw [hb,htp];obtain⟨x1,x2⟩:=a8T (tl:=s.tl) (tp:=s.tp) E (H.lt4 _ E) c;have:=g.bi.up (s.tl (hP A)) [] (dE s.b.pu (s.tl (hP A)) l) (z7 s.to s.tl (dE s.tp (hP A) (s.tp (hP A)++ [(c:Int)]))) (λq hq=>⟨dd hq,W⟩) (by
     rw[cj,j9,hpu];grind)
    rw[SO] at this;omega
  .intro x S;have E:s.to k=true:=by rw[←hto];exact E
   rcases a4h with⟨_,htp⟩|⟨c,l,_,_,_,_,htp|htp⟩
   .rw [htp] at S;grind
   .rw [htp] at S;grind
   .rw [htp] at S;by_cases e:k=hP A
    .subst e;rw[cj] at S;grind
    .rw [dd e] at S;grind
 .have P:=(he h).2;exact⟨Zx,Zx,Zx,Zx,Zx,Zx,Zx,P.symm⟩
end
def RS.JA(s:RS):∀j,(s.turns j).xs=s.xs++s.ws.take j
 |0=>by rw[List.take_zero,j9];rfl
 |j+1=>by have H:=RS.JA s j;have l:=RS.AM j s;show(RS.FY (s.turns j)).xs=_;unfold RS.FY;grind
def a1n{b:Bs}(A:b.xs.Nodup)(N:∀i,i∈b.xs↔i<b.n/\b.ph i=0)(M:b.ws.Nodup)(u:∀i,i∈b.ws↔i<b.n/\b.ph i=2):(sY b).xs.Nodup/\∀i∈(sY b).xs,i<b.n/\(sY b).ph i=0:=by
 have e:(sY b).xs=b.xs++b.ws.take (min b.qt b.ws.length):=RS.JA _ _;have ep:∀i,(sY b).ph i=if i∈b.ws.take (min b.qt b.ws.length) then 0 else b.ph i:=λi=>RS.AN ⟨b.ph,b.ge,b.xs,b.ws⟩ _ i
 grind
def GvR.same:∀{y:List Tk} {b k:Bs},GvR b y k->k.n=b.n/\k.gen=b.gen/\k.cV=b.cV/\k.op=b.op/\k.ws=b.ws/\k.qt=b.qt/\k.tk=b.tk/\k.sz=b.sz/\k.ge=b.ge/\k.ts=grL b.ts y/\k.acc=aeh b.acc y
 |[],b,k,h=>by have e:k=b:=h;rw[e];trivial
 |t::y,b,k,h=>by obtain⟨l,R,_,_,h⟩:=h;exact h.same
def a9U{P:Nat}:∀(l F:List Tk),(∀t∈F,t.p<=P)->(∀t∈l,t.p<=P)->∀t∈Em F l,t.p<=P
 |[],F,h,_=>h
 |u::l,F,h,a=>a9U l (Bx F u) (λt o=>by unfold Bx at o;grind) W
def aaB{P:Nat}:∀(l F:List Tk),(∀t∈F,t.p<=P)->(∀t∈l,t.p<=P)->∀t∈grL F l,t.p<=P
 |[],F,h,_=>h
 |u::l,F,h,a=>aaB l (grT F u) (λt o=>by unfold grT at o;grind) W
def UC:∀(l F:List Tk),(grL F l).length=F.length
 |[],_=>rfl
 |u::l,F=>(UC l (grT F u)).trans (UB F u)
structure ako(s s':Ms)(r:Rs)(os:aI):Prop where
 o1:os.Pairwise (· < ·)
 o2:∀x,x∈os↔s.b.op x=true
 hr:r=iT os (sY s.b).ws.length (gJ s.b.ts).length ⟨[],gJ s.b.ts,s.b.acc,(sY s.b).xs.length⟩
 nx:oy r.acc os r.lf r.fr (sY s.b).ws.length= -1
 ri:yA os (sY s.b).ws.length ⟨[],gJ s.b.ts,s.b.acc,(sY s.b).xs.length⟩
 gv:GvR {sY s.b with ts:=Em s.b.ts (r.gr++r.lf)} r.gr s'.b
 l1:∀t∈r.gr++r.lf,lU (gJ s.b.ts).length s.b.ts t
 l2:((r.gr++r.lf).map Tk.i).Nodup
 oth:s'={s with b:=s'.b}
def SlN(w:V)(n:Nat):Prop:=w= .au/\n=0\/∃b o c,w= .sl b o n c
def SlN.sl{w:V}{n:Nat}(h:SlN w n):a0s w:=by
 rcases h with⟨h,_⟩|⟨b,o,c,h⟩
 .exact .inl h
 .exact .inr ⟨b,o,n,c,h⟩
def ll.slN{w:V}{xs:dC}(h:ll f m w xs):SlN w xs.length:=by
 rcases h with⟨h,g⟩|⟨i,o,c,a,t,w,z,F,A,_⟩
 .exact .inl ⟨h,by rw[g];rfl⟩
 .exact .inr ⟨i,o,c,A⟩
section
variable {own:aG} {f:av} {m M aEY N d Kp i j:Nat} {u:Su} {s:Ms} {a:mS}
def VE(own:aG)(f:av)(m M:Nat)(u:Su)(s:Ms)(i j:Nat)(w:V)(y:av)(L:Nat):Prop:=∃(t:aG) (o:Ms) (r:Rs) (e:aI),SlN w r.gr.length/\t (pl m 1)=0/\Aw own f m M u s i j 0 t y L o/\ako s o r e
def a6Z{R:Rt}(H:kS own f m M u s i j)(hj:j<100)(k A aF1 C:Int)(t):
  Cl R.Y.Y.Y.Y.Y.Y.Y.Y.Y.Y.Y.Y.Y.Y.Y.Y.Y.Y 90 [.ptr M 0,lY k A aF1 C t] f m (λv f' L=>∃w,v=rep 0 (min s.b.qt s.b.ws.length:Nat) w []/\VE own f m M u s i (j+1) w f' L):=by
 have S:=H;obtain⟨aEY,d,Kp,a,H,g⟩:=H;refine(a3k (R:=R.Y.Y.Y.Y.Y.Y.Y.Y.Y.Y.Y.Y.Y.Y.Y.Y.Y) H k A aF1 C t (λv f1 l=>∃w,v= .cI [w,Q (min s.b.qt s.b.ws.length:Nat),Q 0]/\VE own f m M u s i (j+1) w f1 l) λF x=>?_).mono ?_
 .have HF:=H.gr x;have hn:=g.n;have hK:=g.hK;have hd:=g.hd;have hkp:=g.hKp;have hi1:=g.i1;refine(a5u (R:=R) HF.b (λp=>W4) (λp=>Y8) Z Z (λt o=>Y4)).mono ?_;rintro v f1 l ⟨w,n,r,e,bo,b',a',K',d',rfl,rfl,hw,o1,o2,hr,hnx,hRI,hgv,hB,hK',hd',q⟩;obtain⟨E,w2⟩:=Ml H.b.z x W q W;obtain⟨x1,x2⟩:=a1n HF.b.re.st.nd HF.b.re.st.mem HF.b.re.ln.nd HF.b.re.ws;obtain⟨e1,e2,e3,e4,e5,e6,e7,e8,e9,e10,e11⟩:=hgv.same;have hid:=HF.b.bk.id;obtain⟨p1,p2⟩:=GL hid;obtain⟨l1,l2⟩:=zW e (sY s.b).ws.length s.b.ts (gJ s.b.ts).length ⟨[],gJ s.b.ts,s.b.acc,(sY s.b).xs.length⟩ 0 G G;rw[←hr,dz] at l1;rw[←hr] at l2;have EW:=BA s.b.ts;have Hx:=g.tsl;have ets:b'.ts.length=s.b.ts.length:=by rw[e10,UC,Tz]
  have h:=HF.fB q W hB;rw[←ets] at h;have hlp:∀t∈r.gr++r.lf,t.p<=300*(j+1):=λt o=>by obtain⟨y,hy,_,_,_,_,_,h6⟩:=l1 t o;have:=g.tsp _ (eL hy);omega
  have hs:=hw.slN;rw[dT] at hs;refine⟨⟨w,rfl,bo,_,r,e,hs,w2,⟨kS.of G rfl (?_),E,Z⟩,⟨o1,o2,hr,hnx,hRI,hgv,l1,l2,rfl⟩⟩,⟨w,_,rfl,hs.sl⟩,bo,_,q,W,W⟩;refine⟨g.bi.tick hid (λi hi=>((HF.b.re.ws i).1 hi).2) o2 hr hgv x1 x2,g.nn,by show b'.n<=12;rw[e1];trivial,Z,Z,g.hKp,λp=>by show b'.gen p<=i;rw[e2];exact g.gen p,g.tg,g.tc,by show b'.cV<=i;rw[e3];exact g.cV,W,λt o=>?_,hi1,Z,by show(b'.n:Int)=u.c;rw[e1];exact g.un,by show(b'.qt:Int)=u.q;rw[e6];exact g.uq⟩;have o:t∈b'.ts:=o;rw[e10] at o;exact aaB r.gr _ (a9U _ _ (λt o=>Y4) hlp) W t o
 .rintro v f' L ⟨w,n,f1,l,⟨w',hv,bo,s',r,e,hs,o1,P,hT⟩,rfl,hL⟩;have yi:=V.cI.inj hv;injection yi with h1 N;injection N with N _;rw[QJ] at N;subst h1;subst N;exact⟨w,rfl,bo,s',r,e,hs,o1,P.fin W o1 hL,hT⟩
end
section
variable {own:aG} {f:av} {m M aEY N d Kp i j i' j':Nat} {u:Su} {s:Ms} {a:mS}
def abK:¬PDo 0:=λh=>h.1 rfl
def agY:¬PDo 9:=λh=>h.2.1 rfl
def Aw.from{e:Int}{t:aG}{L:Nat}{s':Ms}(q:B f m F p)(h:Aw own F p M u s i j e t y L s'):Aw own f m M u s i j e t y L s':=
 ⟨h.aF0,(q.fr own PDo).trans h.q (λ_ h=>h) (λ_ h=>h),h.r⟩
def pX{R:Rt}(H:kS own f m M u s i j)(k A aF1 C:Int)(t)(c:Nat)(E:a1E k=some (.agg [.fn c [] []]))(N:eW K c=iM c)
  (h:∀F p,B f m F p->Cl R.Y c [.ptr M 0,lY k A aF1 C t] F p (iX own F p M u s i' j')):Cl R.Y.Y 32 [.ptr M 0,lY k A aF1 C t] f m (iX own f m M u s i' j'):=by
 obtain⟨aEY,d,Kp,a,H,hp⟩:=H;refine(a3q H k A aF1 C t c E N (iX own f m M u s i' j') λF p q0 hl=>(h F p q0).mono ?_).mono ?_
 .rintro v r m1 ⟨e,n,w,x,S,o,rfl,l,he,g,L,P⟩;refine⟨⟨e,n,w,x,S,o,rfl,l,he,g,?_,P.from q0⟩,⟨e,n,w,x,rfl,l⟩,S,_,P.q,abK,agY⟩;exact(P.q.same _ G).trans (H.b.z _ W)
 .rintro v y m' ⟨r,m1,⟨e,n,w,x,S,o,rfl,l,he,g,L,P⟩,hL⟩;exact⟨e,n,w,x,S,o,rfl,l,he,g,L,P.fin W L hL⟩
def OL{R:Rt}(H:kS own f m M u s i j)(hj:j<100)(A aF1 C:Int)(t):
  Cl R.Y.Y.Y.Y.Y.Y.Y.Y.Y.Y.Y.Y.Y.Y.Y.Y.Y.Y.Y 32 [.ptr M 0,lY 12 A aF1 C t] f m (λv y N=>∃w,v=rep 0 (min s.b.qt s.b.ws.length:Nat) w []/\VE own f m M u s i (j+1) w y N):=by
 have S:=H;obtain⟨aEY,d,Kp,a,H,g⟩:=H;refine(a3q (R:=R.Y.Y.Y.Y.Y.Y.Y.Y.Y.Y.Y.Y.Y.Y.Y.Y.Y) H 12 A aF1 C t 90 rfl G (λv k l=>∃w,v=rep 0 (min s.b.qt s.b.ws.length:Nat) w []/\VE own f m M u s i (j+1) w k l) λF p x hl=>(a6Z (R:=R) (S.gr x) hj 12 A aF1 C t).mono ?_).mono ?_
 .rintro v k l ⟨w,rfl,h,o,r,e,c,L,P,E⟩;refine⟨⟨w,rfl,h,o,r,e,c,?_,P.from x,E⟩,⟨_,_,_,_,rfl,c.sl⟩,h,_,P.q,abK,agY⟩;exact(P.q.same _ G).trans (H.b.z _ W)
 .rintro v y N ⟨k,l,⟨w,rfl,h,o,r,e,c,L,P,E⟩,n⟩;exact⟨w,rfl,h,o,r,e,c,L,P.fin W L n,E⟩
def iX.up{v:V}{L:Nat}(h:iX own f m M u s i j v y L)(F:i<=i')(z:j<=j')(A:i'<=60)(N:j'<=100):iX own f m M u s i' j' v y L:=by obtain⟨e,n,w,x,t,o,H,l,b,g,a,P⟩:=h;exact⟨e,n,w,x,t,o,H,l,b,g,a,⟨P.aF0.up F z A N,P.q,P.r⟩⟩
def agk{R:Rt}(H:kS own f m M u s i j)(c:i<60)(z:j<100)(k A aF1 C:Int)(N:A<=9223372036854775807)(E:C<=9223372036854775807)(t)(o:∀b∈t,b<256)(hl:t.length<=9223372036854775807):
  Cl R.Y.Y.Y.Y.Y.Y.Y.Y.Y.Y.Y.Y.Y.Y.Y.Y.Y.Y.Y 32 [.ptr M 0,lY k A aF1 C t] f m (iX own f m M u s (i+1) (j+1)):=by
 by_cases e:k=12
 .subst e;refine(OL H z A aF1 C t).mono ?_;rintro v y L ⟨w,rfl,bo,s',r,os,hs,l,P,hT⟩;have hn:min s.b.qt s.b.ws.length<=64:=by
   obtain⟨aEY,d,Kp,a,H,g⟩:=H;have:=dg H.b.re.ln.nd (λx hx=>((H.b.re.ws x).1 hx).1);have:=g.n;omega
  exact iX.up ⟨0,_,w,[],bo,s',rfl,hs.sl,Z,Z,l,P⟩ Z Z Z Z
 by_cases e:k=14
 .subst e;exact pX H 14 A aF1 C t _ rfl G λF p q=>(a6Y (R:=R.Y.Y.Y.Y.Y.Y.Y.Y.Y.Y.Y) (H.gr q) 14 A aF1 C N t).mono λv y L h=>h.up Z Z Z Z
 by_cases e:k=13
 .subst e;exact pX H 13 A aF1 C t _ rfl G λF p q=>(a1M (R:=R.Y.Y.Y.Y.Y.Y.Y.Y.Y.Y.Y.Y.Y) (H.gr q) 13 A aF1 C N t).mono λv y L h=>h.up Z Z Z Z
 by_cases e:k=11
 .subst e;exact pX H 11 A aF1 C t _ rfl G λF p q=>(a71 (R:=R.Y.Y.Y.Y.Y.Y.Y.Y.Y.Y) (H.gr q) 11 A aF1 C N t).mono λv y L h=>h.up Z Z Z Z
 by_cases e:k=10
 .subst e;exact pX H 10 A aF1 C t _ rfl G λF p q=>(a1L (R:=R.Y.Y.Y.Y.Y.Y.Y.Y.Y) (H.gr q) 10 A aF1 C N t o hl).mono λv y L h=>h.up Z Z Z Z
 by_cases e:k=9
 .subst e;exact pX H 9 A aF1 C t _ rfl G λF p q=>a73 (R:=R.Y.Y.Y.Y.Y.Y) (H.gr q) c z 9 A aF1 C N t
 by_cases e:k=8
 .subst e;exact pX H 8 A aF1 C t _ rfl G λF p q=>a74 (R:=R.Y.Y.Y.Y.Y.Y) (H.gr q) c z 8 A aF1 C N t
 by_cases e:k=7
 .subst e;exact pX H 7 A aF1 C t _ rfl G λF p q=>abp (R:=R.Y.Y.Y.Y.Y.Y.Y.Y.Y) (H.gr q) c z 7 A aF1 C N E t
 by_cases e:k=6
 .subst e;exact pX H 6 A aF1 C t _ rfl G λF p q=>a1N (R:=R.Y.Y.Y.Y.Y.Y.Y.Y.Y) (H.gr q) c z 6 A aF1 C N t
 by_cases e:k=5
 .subst e;exact pX H 5 A aF1 C t _ rfl G λF p q=>a70 (R:=R.Y.Y.Y.Y.Y.Y.Y.Y.Y.Y) (H.gr q) c z 5 A aF1 C N t
 by_cases e:k=4
 .subst e;exact pX H 4 A aF1 C t _ rfl G λF p q=>Ws (R:=R.Y.Y.Y.Y.Y.Y.Y.Y.Y) (H.gr q) c z 4 A aF1 C N t
 by_cases e:k=3
 .subst e;exact pX H 3 A aF1 C t _ rfl G λF p q=>abq (R:=R.Y.Y.Y.Y.Y.Y.Y.Y.Y) (H.gr q) c z 3 A aF1 C N t
 by_cases e:k=2
 .subst e;exact pX H 2 A aF1 C t _ rfl G λF p q=>Wr (R:=R.Y.Y.Y.Y.Y.Y.Y.Y.Y.Y) (H.gr q) c z 2 A aF1 C N t
 by_cases e:k=1
 .subst e;exact pX H 1 A aF1 C t _ rfl G λF p q=>JK (R:=R.Y.Y.Y.Y.Y.Y.Y.Y.Y.Y.Y) (H.gr q) c z 1 A aF1 C t
 have S:=H;obtain⟨aEY,d,Kp,a,H,g⟩:=H;refine(a7X (R:=R.Y.Y.Y.Y.Y.Y.Y.Y.Y.Y.Y.Y.Y.Y.Y.Y.Y) H k A aF1 C t (by unfold a1E;grind)).mono ?_;rintro v y L ⟨rfl,q⟩;exact Wo (S.up Z Z Z Z) q
end
end
end Go.Ev.Sy
section
open Go Go.Ev
def CG:zI Go.Proofs.Tryz.prog exts glk drT (wR Go.Proofs.Tryz.prog)=true:=E7
end
