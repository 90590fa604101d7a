import Derived.Test.YthpffinbkpnniaaGreatDoorM13
set_option linter.all false
set_option maxRecDepth 100000
namespace Go.Ev.Sy
open Go Go.Ev Go.Proofs
open Tryz
noncomputable section
variable{b1 b2 p:Nat}{g gc:dA}
section
variable {own:aG} {f:av} {m S n sz aEY:Nat} {ph:aG} {ow ge:dc} {ys:aI} {A:SL}
def a72{R:Rt}{z u:ay}(i:Nat)(d:i<n)(C:∀x,m<=x->own x=0)(P:At own 23 f m p (.row 287 (n*6) 0 true u (.cf gc)))(hC:jb own f m sz gc i 0)
  (N:f b1=(.row 124 1 0 true [.bg] (.cf (bI [.ptr S 0])))) (e:f b2=(.row 270 1 0 true [.bg] (.cf (cy (zf [.bg]) 0 (.ptr p (i*6)))))) (hS:f S= .row 202 9 0 true z (.cf g)) (M:g 3=Q sz) (l:b1<m) (m2:b2<m) (m3:S<m) (z1:1<=sz) (z2:sz<=65536):
  Cl R.Y.Y.Y.Y.Y 181 [.ptr p (i*6),.fn 388 [] [.ptr b1 0,.ptr b2 0]] f m (λv y L=>∃t H,At t 23 y L p (.row 287 (n*6) 0 true u (.cf H))/\(∀j,¬(i*6<=j/\j<i*6+6)->H j=gc j)/\H (i*6+3)=gc (i*6+3)/\
   H (i*6)= .ik .u32 1/\(∃aF1 w,H (i*6+4)= .ptr aF1 0/\hJ t (200+i) y L aF1 sz w)/\(∀x,x<m->x≠p->y x=f x)/\Fr (· =23) own f m t y L):=by
 rcases hC with⟨s,h1,h4,_⟩|⟨s,aF1,w,h4,q,_⟩
 .refine BC (R:=R.Y) (aEV:=λy L=>∃t H,At t 23 y L p (.row 287 (n*6) 0 true u (.cf H))/\(∀j,¬(i*6<=j/\j<i*6+6)->H j=gc j)/\H (i*6+3)=gc (i*6+3)/\
   H (i*6)= .ik .u32 1/\(∃aF1 w,H (i*6+4)= .ptr aF1 0/\hJ t (200+i) y L aF1 sz w)/\(∀x,x<m->x≠p->y x=f x)/\Fr (· =23) own f m t y L) P.obj Z s h1 _ (λh=>Q8) ?_
  intro k T E;have e1:b1≠p:=λh=>by subst h;rw[P.obj] at N;grind
  have e2:b2≠p:=λh=>by subst h;rw[P.obj] at e;grind
  have A:S≠p:=λh=>by subst h;rw[P.obj] at hS;grind
  rw[a5l];show(eW K 388).run _ [.ptr b1 0,.ptr b2 0] _ _=T;rw[(ckg I),a2D];refine cUx func388 ?_;simp only[go_sem,N,e,hS,M,e1,e2,A, ↓ag 389];refine aP ?_;intro F hF;have qF:Fr (· =23) own f m own F m:=by rw[hF];exact(Fr.refl _ own f m).bw (λ_=>P.own)
  have hcF:F p= .row 287 (n*6) 0 true u (.cf (cy gc (i*6+1) (.ik .i32 1))):=O2;apply(a9l own (200+i) F m _ sz z1 z2).bu;rintro v r M1 ⟨aF1,b,w,rfl,q,q1⟩;have c:At b 23 r M1 p _:=At.ah ⟨hcF,P.own,P.lt⟩ q1 id;have hco:=c.obj;have c4:i*6+4<n*6:=Z;have azX:r b1=(.row 124 1 0 true [.bg] (.cf (bI [.ptr S 0]))):=by rw[q1.ah b1 l id,hF,aE e1];exact N
  have azW:r b2=(.row 270 1 0 true [.bg] (.cf (cy (zf [.bg]) 0 (.ptr p (i*6))))):=by rw[q1.ah b2 m2 id,hF,aE e2];exact e
  have hS':r S= .row 202 9 0 true z (.cf g):=by rw[q1.ah S m3 id,hF,aE A];exact hS
  refine zS ?_;have q2:∀o,Fr (· =23) b r M1 b (bw r p o) M1:=λo=>(Fr.refl _ b r M1).bw (λ_=>c.own);refine E _ _ ⟨_,aK ..,?_,?_,b,_,⟨aK ..,c.own,c.lt⟩,λj hj=>?_,?_,?_,⟨aF1,w,?_,?_⟩,λx hx a=>?_,?_⟩
  .rw [a04 Z,a04 Z];trivial
  .rw [a04 Z,cd]
  .rw [a04 Z,a04 Z,a04 Z,a04 Z]
  .rw [a04 Z,a04 Z,a04 Z,a04 Z]
  .rw [a04 Z,cd]
  .rw [a04 Z,a04 Z,cd]
  .rw [zL];exact q.ah (q2 _) I Z
  .rw [aE a,aE a,q1.ah x hx id,hF,aE a]
  .rw [zL];exact(qF.trans q1 (λ_ h=>h) (λ_ h=>h.elim)).trans (q2 _) (λ_ h=>h) (λ_ h=>h)
 .intro k T E;rw[Eu P.obj Z s _ (λh=>Q8)];exact E _ _ _ ⟨own,gc,P,λj _=>rfl,rfl,s,W,W,Fr.refl _ _ _ _⟩
def a75{R:Rt}(i:Nat)(H:i9 own f m S n sz aEY ph ow ge (ys++ [i]) A)(hz:∀x,m<=x->own x=0)(hK:aEY<1048575)(o:Nat)(ho:1<=o):
  Cl R.Y.Y.Y.Y.Y.Y.Y.Y 332 [.ptr S 0,Q o] f m (λv y m'=>v= .cI [Q i,Q 0]/\∃bo A',i9 bo y m' S n sz (aEY+1) (ib ph i 1) (eH ow i o) ge ys A'/\Fr PS own f m bo y m'):=by
 intro k T E;obtain⟨d,hph⟩:=(H.mem i).1 J1;have g0:=λo=>((B.refl f m).new (o:=o)).fr own (λ_=>False);have hi:=λo=>vS (H.s.ah (g0 o) id);have hS:=H.s.aS.obj;have h1:=H.s.g1;have e1:S≠m:=by have:=H.s.aS.lt;omega
 have c1:¬(o:Int)<1:=Z;refine cUx func332 ?_;simp only[go_sem,hi,hS,h1,e1,c1, ↓ag 387];refine aP ?_;intro F hF;have qF:B f m F (pl m 1):=Vw;have qF':=qF.fr own (λ_=>False);have hbx:F m=(.row 124 1 0 true [.bg] (.cf (bI [.ptr S 0]))):=O2;apply(YV (H.fr.ah qF' id id id)).bu;rintro v r m1 ⟨rfl,rfl,⟨fa1,ait⟩,P⟩;have s1:=(H.s.ah qF' id).ah P I;have hS1:=s1.aS.obj;have h2:=s1.g2;have om:own m=0:=W;have aiF:r m=(.row 124 1 0 true [.bg] (.cf (bI [.ptr S 0]))):=by rw[P.ah m W Z];exact hbx
 have e2:m≠pl m 1:=W;have e3:S≠pl m 1:=by have:=s1.aS.lt;omega
 have n9:n<=9223372036854775807:=by have:=H.s.n1;omega
 have h0:=s1.g0;simp only[go_sem,aiF,hS1,h2,d, ↓ag 181];refine aP ?_;intro F2 xo;have Eh:B r (pl m 1) F2 (pl m 2):=by rw[xo];exact(B.w (m2:=pl m 1) Qc E1)
 have z:=s1.ah (Eh.fr own (λ_=>False)) id;have a4g:jb own F2 (pl m 2) sz A.a.gc i 0:=by have h:=H.cell i d;rw[hph] at h;exact((h.ah qF' id id id).ah P I Z Z).ah (Eh.fr own (λ_=>False)) id id id
 have b:m<pl m 2:=W;have hm2:pl m 1<pl m 2:=W;have aiE:F2 m=(.row 124 1 0 true [.bg] (.cf (bI [.ptr S 0]))):=by rw[Eh.ah m W];exact aiF
 have aiA:F2 (pl m 1)=(.row 270 1 0 true [.bg] (.cf (cy (zf [.bg]) 0 (.ptr A.a.cr (i*6))))):=Xv;apply(a72 i d W z.ac a4g aiE aiA z.aS.obj z.g3 b hm2 z.aS.lt H.z1 H.z2).bu;rintro v N m3 ⟨g9,gc',aq1,azA,azz,azy,apR,hk3,p⟩;have aqh:S≠A.a.cr:=z.aS.kv z.ac W;have apu:m≠A.a.cr:=by have:=H.s.ac.lt;omega
 have aii:pl m 1≠A.a.cr:=by have:=H.s.ac.lt;unfold pl;omega
 have aiD:N m=(.row 124 1 0 true [.bg] (.cf (bI [.ptr S 0]))):=by rw[hk3 m b apu];exact aiE
 have apZ:N (pl m 1)=(.row 270 1 0 true [.bg] (.cf (cy (zf [.bg]) 0 (.ptr A.a.cr (i*6))))):=by rw[hk3 _ hm2 aii];exact aiA
 have apP:∀j,j<n->gc' (j*6+3)=A.a.gc (j*6+3):=λj hj=>by grind
 have s3:gX g9 N m3 S n sz ph (mQ n ph) {A.a with gc:=gc'}:=⟨⟨by rw[hk3 S z.aS.lt aqh];exact z.aS.obj,by rw[p.same S z.aS.lt];exact z.aS.own,bW z.aS.lt p.le⟩,aq1,z.g0,z.g1,z.g2,z.g3,z.g4,z.g8,z.n1,z.p4,λj hj=>by rw[show ({A.a with gc:=gc'}:vD).gc=gc' from rfl,apP j hj];exact z.ph j hj⟩;have hS3:=s3.aS.obj;have ot0:ow i=0:=H.ow0 i d Z;have t3:=(((H.t.ah qF' id).ah P I).ah (Eh.fr own (λ_=>False)) id).ah p I;simp only[go_sem,aiD,hS3,h0, ↓ag 390];apply(a1C t3 i d o Z ot0).bu;rintro v g m4 ⟨rfl,rfl,⟨ta',t4⟩,q4⟩;have xR:own (pl m 1)=0:=hz _ W;have az9:=p.le;have aq6:g m=(.row 124 1 0 true [.bg] (.cf (bI [.ptr S 0]))):=by rw[q4.ah m Z (by rw[p.same m b,om];decide)];exact aiD
 have apY:g (pl m 1)=(.row 270 1 0 true [.bg] (.cf (cy (zf [.bg]) 0 (.ptr A.a.cr (i*6))))):=by rw[q4.ah _ Z (by rw[p.same _ hm2,xR];decide)];exact apZ
 have s4:=s3.ah q4 I;have ct4:=((((H.ct.ah qF' id).ah P I).ah (Eh.fr own (λ_=>False)) id).ah p I).ah q4 I;have L:=zO (R:=R) s4 ct4 H.cs i d hK 1 Z;rw[show Q ((ph i:Int)+1)=Q 1 from W] at L;simp only[go_sem,aq6,apY, ↓ag 391];refine L.bu ?_;rintro v f5 u ⟨rfl,C,a5,cs5,l,hT,hFF,hB5,QY,QU,ct5,QW,M⟩;refine zS ?_;have Cq:=jS.1 H.nd;have hiy:i∉ys:=λh=>W;have t5:=t4.ah M I;have fr5:=(((ait.ah (Eh.fr own (λ_=>False)) id id id).ah p I I I).ah q4 I I I).ah M I I I;have hBy:=apR;refine E _ _ _ ⟨rfl,C,⟨a5,ta',fa1,cs5⟩,⟨l,W,W,W,QW,W,λj=>?_,λj hj h=>?_,λj hj h=>?_,λj hj=>by have:=H.ge j hj;omega,λj hj=>?_,H.z1,H.z2⟩,?_⟩
 .by_cases e:j=i
  .subst e;rw[dP];grind
  .rw [eU e,←H.mem j];grind
 .by_cases e:j=i
  .subst e;rw[dk];omega
  .rw [cJ e];rw[eU e] at h;exact H.ow1 j hj h
 .by_cases e:j=i
  .subst e;rw[dP] at h;trivial
  .rw [cJ e];rw[eU e] at h;exact H.ow0 j hj h
 .show jb C f5 u sz a5.gc j (ib ph i 1 j);rw[QU];show jb C f5 u sz (cy gc' (i*6+3) (Q 1)) j (ib ph i 1 j);by_cases e:j=i
  .subst e;obtain⟨aF1,ba,h4,q⟩:=hBy;rw[dP];refine .inr ⟨Vf,aF1,ba,Vf,(q.ah q4 I Z).ah M I Z,Z⟩
  .rw [eU e];refine jb.to (gc:=A.a.gc) ?_ (λx hx=>by rw[a04 Z];grind);exact((((((H.cell j hj).ah qF' id id id).ah P I Z Z).ah (Eh.fr own (λ_=>False)) id id id).ah p I Z Z).ah q4 I Z Z).ah M I Z Z
 .refine ((((qF'.trans P (S:=PS) (λ_ h=>h.elim) (λc h=>?_)).trans (Eh.fr own (λ_=>False)) (λ_ h=>h) (λ_ h=>h.elim)).trans p (λ_ h=>h) (λc h=>?_)).trans q4 (λ_ h=>h) (λc h=>?_)).trans M (λ_ h=>h) (λc h=>?_)<;>(have:=H.s.n1;unfold PS;omega)
end
section
variable {own:aG} {f:av} {m S n sz aEY:Nat} {ph:aG} {ow ge:dc} {xs:aI} {A:SL}
def a1P{R:Rt}(i:Nat)(H:i9 own f m S n sz aEY ph ow ge xs A)(d:i<n)(N:ph i=1)(hK:aEY<1048575):
  Cl R.Y.Y.Y.Y.Y.Y.Y.Y 372 [.ptr S 0,Q i,Q (ow i)] f m (λv y m'=>v=Q 0/\∃bo A',i9 bo y m' S n sz (aEY+1) (ib ph i 2) (eH ow i 0) ge xs A'/\Fr PS own f m bo y m'):=by
 intro k T E;have P:=H.s.aS.obj;have h0:=H.s.g0;have F:=H.s.ac.obj;have hp:=H.s.ph i d;rw[N] at hp;have hf:=lI H.s i d;have hO:=AP H.t i d;have c1:i*6+3<n*6:=Z;have o1:=H.ow1 i d N;refine cUx func372 ?_;simp only[go_sem,hf,P,h0,F,hp,c1,hO, ↓ag 421];apply(OF H.t i d Z).bu;rintro v g m4 ⟨rfl,rfl,⟨r,t4⟩,q4⟩;have s4:=H.s.ah q4 I;have ct4:=H.ct.ah q4 I;have L:=zO (R:=R) s4 ct4 H.cs i d hK 2 Z;rw[show Q ((ph i:Int)+1)=Q 2 from W] at L;simp only[go_sem, ↓ag 391];refine L.bu ?_;rintro v p u ⟨rfl,C,b,cs5,l,hT,hFF,hB5,QY,o,ct5,QW,M⟩;refine zS ?_;have t5:=t4.ah M I;have fr5:=(H.fr.ah q4 I I I).ah M I I I;refine E _ _ _ ⟨rfl,C,⟨b,r,A.fa,cs5⟩,⟨l,W,W,W,QW,H.nd,λj=>?_,λj z h=>?_,λj z h=>?_,λj z=>by have:=H.ge j z;omega,λj z=>?_,H.z1,H.z2⟩,?_⟩
 .rw [H.mem j];by_cases e:j=i
  .subst e;rw[dP];omega
  .rw [eU e]
 .by_cases e:j=i
  .subst e;rw[dP] at h;omega
  .rw [cJ e];rw[eU e] at h;exact H.ow1 j z h
 .by_cases e:j=i
  .subst e;rw[dk]
  .rw [cJ e];rw[eU e] at h;exact H.ow0 j z h
 .show jb C p u sz b.gc j (ib ph i 2 j);rw[o];have a:=((H.cell j z).ah q4 I Z Z).ah M I Z Z;by_cases e:j=i
  .subst e;rw[dP];rcases a with⟨_,_,_,h⟩|⟨h1,aF1,w,h4,q,_⟩
   .omega
   .exact .inr ⟨Vf,aF1,w,Vf,q,Z⟩
  .rw [eU e];exact a.to (λx hx=>Vt)
 .refine q4.trans M (S:=PS) (λc h=>?_) (λc h=>?_)<;>(have:=H.s.n1;unfold PS;omega)
def a1Q{R:Rt}(i:Nat)(H:i9 own f m S n sz aEY ph ow ge xs A)(d:i<n)(hph:ph i=2)(hK:aEY<1048575):
  Cl R.Y.Y.Y.Y.Y.Y.Y.Y 424 [.ptr S 0,Q i] f m (λv y m'=>v=Q 0/\∃bo A',i9 bo y m' S n sz (aEY+1) (ib ph i 3) ow ge xs A'/\VD bo y m' sz A'.a.gc i sz/\Fr PS own f m bo y m'):=by
 intro k T E;have P:=H.s.aS.obj;have h0:=H.s.g0;have F:=H.s.ac.obj;have hp:=H.s.ph i d;have hf:=lI H.s i d;have L:=zO (R:=R) H.s H.ct H.cs i d hK 3 Z;rw[show Q ((ph i:Int)+1)=Q 3 from W] at L;refine cUx func424 ?_;simp only[go_sem,hf, ↓ag 391];refine L.bu ?_;rintro v p m5 ⟨rfl,C,b,cs5,s5,hT,hFF,hB5,QY,QU,ct5,QW,M⟩;obtain⟨h1,aF1,w,u,q,_⟩:A.a.gc (i*6)= .ik .u32 1/\∃aF1 w,A.a.gc (i*6+4)= .ptr aF1 0/\hJ C (200+i) p m5 aF1 sz w/\True:=by
  rcases H.cell i d with⟨_,_,_,h⟩|⟨h1,aF1,w,u,q,_⟩
  .omega
  .exact ⟨h1,aF1,w,u,q.ah M I Z,trivial⟩
 have hc5:=s5.ac.obj;rw[QY] at hc5;have c4:i*6+4<n*6:=Z;have N:b.gc (i*6+4)= .ptr aF1 0:=by rw[QU,a04 Z];exact u
 simp only[go_sem,hc5,c4,N, ↓ag 459];apply(Wy C (300+i) _ q).bu;rintro v f6 m6 ⟨r,l,rfl,hW,q6⟩;have s6:=s5.ah q6 id;have hc6:=s6.ac.obj;rw[QY] at hc6;have c5:i*6+5<n*6:=Z;simp only[go_sem,hc6,c5];have g:∀o,Fr (· =23) l f6 m6 l (bw f6 A.a.cr o) m6:=λo=>(Fr.refl _ l f6 m6).bw (λ_=>by rw[←QY];exact s6.ac.own);have s7:=s6.agu (cy b.gc (i*6+5) (.ptr r 0)) (λj z=>Vt);rw[QY] at s7;have fr7:=((H.fr.ah M I I I).ah q6 id id id).ah (g (.row 287 (n*6) 0 true b.zc (.cf (cy b.gc (i*6+5) (.ptr r 0))))) I I I;have t7:=((H.t.ah M I).ah q6 id).ah (g (.row 287 (n*6) 0 true b.zc (.cf (cy b.gc (i*6+5) (.ptr r 0))))) I;have ct7:=(ct5.ah q6 id).ah (g (.row 287 (n*6) 0 true b.zc (.cf (cy b.gc (i*6+5) (.ptr r 0))))) I;refine E _ _ _ ⟨rfl,l,⟨{b with cr:=A.a.cr,gc:=cy b.gc (i*6+5) (.ptr r 0)},A.ta,A.fa,cs5⟩,⟨s7,W,W,W,QW,H.nd,λj=>?_,λj z h=>?_,λj z h=>?_,λj z=>by have:=H.ge j z;omega,λj z=>?_,H.z1,H.z2⟩,⟨r,aF1,0,cd ..,At.ah hW (g _) Z,kU _,Z⟩,?_⟩
 .rw [H.mem j];by_cases e:j=i
  .subst e;rw[dP];omega
  .rw [eU e]
 .by_cases e:j=i
  .subst e;rw[dP] at h;omega
  .rw [eU e] at h;exact H.ow1 j z h
 .by_cases e:j=i
  .subst e;exact H.ow0 j z Z
  .rw [eU e] at h;exact H.ow0 j z h
 .show jb l _ m6 sz (cy b.gc (i*6+5) (.ptr r 0)) j (ib ph i 3 j);rw[QU];by_cases e:j=i
  .subst e;rw[dP];refine .inr ⟨Qp,aF1,w,Qp,(q.ah q6 id id).ah (g _) I Z,λh=>⟨r,0,cd ..,At.ah hW (g _) Z,kU _⟩⟩
  .rw [eU e];have hcj:=(((H.cell j z).ah M I Z Z).ah q6 id id id).ah (g (.row 287 (n*6) 0 true b.zc (.cf (cy b.gc (i*6+5) (.ptr r 0))))) I Z Z;rw[QU] at hcj;exact hcj.to (λx hx=>Vp)
 .refine (M.trans q6 (S:=PS) (λc h=>?_) (λc h=>h.elim)).trans (g _) (λ_ h=>h) (λc h=>?_)<;>(have:=H.s.n1;unfold PS;omega)
end
section
variable {own:aG} {f:av} {m S n sz aEY:Nat} {ph:aG} {ow ge:dc} {xs:aI} {A:SL}
def a76{R:Rt}(i:Nat)(H:i9 own f m S n sz aEY ph ow ge xs A)(d:i<n)(N:ph i=3)(hK:aEY<1048575)(hge:ge i<1048575)(q:Nat)(hq:1<=q)(r:Nat)(hr:VD own f m sz A.a.gc i r):
  Cl R.Y.Y.Y.Y.Y.Y.Y.Y 425 [.ptr S 0,Q i,Q q] f m (λv f' m'=>∃b:Bool,v= .cI [.bool b,Q 0]/\∃bo A',(b=false->q<r/\VD bo f' m' sz A'.a.gc i (r-q))/\(if b=true then i9 bo f' m' S n sz (aEY+1) (ib ph i 0) ow (eH ge i (ge i+1)) (xs++ [i]) A' else i9 bo f' m' S n sz aEY ph ow ge xs A')/\Fr PS own f m bo f' m'):=by
 intro k T E;have hc:=H.s.ac.obj;have hp:=H.s.ph i d;rw[N] at hp;have hf:=lI H.s i d;have n1:=H.s.n1;have c1:¬(q:Int)<1:=Z;have c3:i*6+3<n*6:=Z;have c5:i*6+5<n*6:=Z;obtain⟨h1,aF1,ba,u,hB,aEX,w,h5,hW,hw,hwr⟩:A.a.gc (i*6)= .ik .u32 1/\∃aF1 ba,A.a.gc (i*6+4)= .ptr aF1 0/\hJ own (200+i) f m aF1 sz ba/\∃aEX w,A.a.gc (i*6+5)= .ptr aEX 0/\pf own (300+i) f m aEX aF1 w/\w<=sz/\sz-w<=r:=by
  rcases H.cell i d with⟨_,_,_,h⟩|⟨h1,aF1,ba,u,hB,F⟩
  .omega
  .obtain ⟨aEX,w,e5,e6,e7⟩:=F N;obtain⟨W',B',w',g,g6,g7,g8⟩:=hr;rw[e5] at g;cases g;have hz2:=H.z2;obtain⟨rfl,rfl⟩:=e6.inj g6 Z Z;grind
 refine cUx func425 ?_;simp only[go_sem,hf,hc,hp,c1,c3,c5,h5, ↓ag 460];apply(a21 hW hB hw Z Z Z Z q hq).bu;rintro v f1 l ⟨rfl,hW1,⟨ba1,hB1⟩,P⟩;have s1:=H.s.ah P Z;have hc1:=s1.ac.obj;have hD:=a2a hW1 hB1 Z;by_cases e:w+min q (sz-w)=sz
 .rw [dI e] at hD;have hS:=s1.aS.obj;have h0:=s1.g0;have g1:=s1.g1;have eS:S≠A.a.cr:=W;simp only[go_sem,hc1,c5,h5,hD,hS,h0,eS, ↓ag 462];refine aP ?_;intro F2 xo;have o:Fr (· =23) own f1 l own F2 l:=by rw[xo];exact(Fr.refl _ own f1 l).bw (λ_=>s1.ac.own)
  have s2:=s1.agu (cy A.a.gc (i*6+5) .bg) (λj z=>Vt);rw[←xo] at s2;have ot0:ow i=0:=H.ow0 i d Z;refine(OE ((H.t.ah P Z).ah o I) i d ot0 hge (H.ge i d).1).bu ?_;rintro v f3 m3 ⟨rfl,rfl,⟨ta',t3⟩,p⟩;have s3:=s2.ah p I;have hS3:=s3.aS.obj;have hni:i∉xs:=λh=>by have:=(H.mem i).1 h;omega
  simp only[go_sem,hS3,g1, ↓ag 463];refine(YY (((H.fr.ah P Z Z Z).ah o I I I).ah p I I I) d hni).bu ?_;rintro v f4 m4 ⟨rfl,⟨fa',fr4⟩,q4⟩;have s4:=s3.ah q4 I;have ct4:=(((H.ct.ah P Z).ah o I).ah p I).ah q4 I;have L:=zO (R:=R) s4 ct4 H.cs i d hK 0 Z;rw[show Q ((ph i:Int)+1)=Q 4 from W] at L;simp only[go_sem, ↓ag 391];refine L.bu ?_;rintro v f5 m5 ⟨rfl,C,a5,cs5,s5,hT,hFF,hB5,QY,QU,ct5,QW,M⟩;refine zS ?_;have t5:=(t3.ah q4 I).ah M I;have fr5:=fr4.ah M I I I;refine E _ _ _ ⟨true,rfl,C,⟨a5,ta',fa',cs5⟩,λh=>Q8,?_,?_⟩
  .rw [ao rfl];refine⟨s5,W,W,W,QW,?_,λj=>?_,λj z h=>?_,λj z h=>?_,λj z=>?_,λj z=>?_,H.z1,H.z2⟩
   .refine jS.2 ⟨H.nd,J1,λx hx y hy=>?_⟩;grind
   .rw [fJ,H.mem j];by_cases e:j=i
    .subst e;rw[dP];grind
    .rw [eU e];grind
   .by_cases e:j=i
    .subst e;rw[dP] at h;omega
    .rw [eU e] at h;exact H.ow1 j z h
   .by_cases e:j=i
    .grind
    .rw [eU e] at h;exact H.ow0 j z h
   .have:=H.ge j z;by_cases e:j=i
    .subst e;rw[dk];omega
    .rw [cJ e];omega
   .show jb C f5 m5 sz a5.gc j (ib ph i 0 j);rw[QU];show jb C f5 m5 sz (cy (cy A.a.gc (i*6+5) .bg) (i*6+3) (Q 0)) j (ib ph i 0 j);by_cases e:j=i
    .subst e;rw[dP];exact .inr ⟨Qp,aF1,ba1,Qp,(((hB1.ah o I Z).ah p I Z).ah q4 I Z).ah M I Z,Z⟩
    .rw [eU e];refine jb.to (gc:=A.a.gc) ?_ (λx hx=>Vp);exact(((((H.cell j z).ah P Z Z Z).ah o I Z Z).ah p I Z Z).ah q4 I Z Z).ah M I Z Z
  .refine (((P.trans o (S:=PS) (λc h=>?_) (λc h=>?_)).trans p (λ_ h=>h) (λc h=>?_)).trans q4 (λ_ h=>h) (λc h=>?_)).trans M (λ_ h=>h) (λc h=>?_)<;>(have:=H.s.n1;unfold PS;omega)
 .rw [dB e] at hD;refine zS ?_;refine E _ _ _ ⟨false,rfl,own,A,λ_=>⟨Z,aEX,aF1,_,h5,hW1,Z,Z⟩,?_,P.mono (λc h=>Jy)⟩;rw[aj I];refine⟨s1,H.t.ah P Z,H.fr.ah P Z Z Z,H.ct.ah P Z,H.cs,H.nd,H.mem,H.ow1,H.ow0,H.ge,λj z=>?_,H.z1,H.z2⟩;by_cases e2:j=i
  .subst e2;exact .inr ⟨h1,aF1,ba1,u,hB1,λ_=>⟨aEX,_,h5,hW1,Z⟩⟩
  .exact (H.cell j z).ah P Z Z Z
end
variable{y:av}
section
variable {own:aG} {f:av} {m S n sz aEY:Nat} {ph:aG} {ow ge:dc} {xs:aI} {A:SL}
@[grind →] theorem i9.gr{L:Nat}(h:i9 own f m S n sz aEY ph ow ge xs A)(q:B f m y L):i9 own y L S n sz aEY ph ow ge xs A:=h.ah (q.fr own (λ_=>False)) (λ_ _=>id) id id
def Du(H:i9 own f m S n sz aEY ph ow ge xs A)(i:Int)(F:¬(0<=i/\i<n))(R:Rt)(L:Nat)(k):R.Y.Y.call 119 [.ptr S 0,Q i] (.fn f L) k=k (.cI [.bg,Q 2]) (.fn f L):=by
 have P:=H.s.aS.obj;have N:=H.s.g2;have M:=vS H.s;have w:n<=9223372036854775807:=by have:=H.s.n1;omega
 by_cases q:i<0
 .refine cUx func119 ?_;exact zC
 .have c2:(n:Int)<=i:=by omega
  refine cUx func119 ?_;exact zC
def SY(H:i9 own f m S n sz aEY ph ow ge xs A)(i g:Int):
  (∃j:Nat,j<n/\i=j/\ph j=1/\ge j=g/\∃aF1 w,hJ own (200+j) f m aF1 sz w/\A.a.gc (j*6+4)= .ptr aF1 0/\∀(R:Rt) (L:Nat) (k:cR),R.Y.Y.Y.call 320 [.ptr S 0,Q i,Q g] (.fn f L) k=k (.cI [.ptr aF1 0,Q 0]) (.fn f L))\/
  (∃e:Int,(e=2\/e=4)/\∀(R:Rt) (L:Nat) (k:cR),R.Y.Y.Y.call 320 [.ptr S 0,Q i,Q g] (.fn f L) k=k (.cI [.bg,Q e]) (.fn f L)):=by
 by_cases F:0<=i/\i<n
 .obtain ⟨j,rfl⟩:∃j:Nat,i=j:=⟨i.toNat,Z⟩;have z:j<n:=Z;have P:=H.s.aS.obj;have d:=H.s.g0;have N:=H.s.g2;have l:=H.s.ac.obj;have hp:=H.s.ph j z;have c:=lI H.s j z;have hG:=AQ H.t j z;have c1:j*6+3<n*6:=Z;have c2:j*6+4<n*6:=Z;by_cases b:ph j=1
  .by_cases p:ge j=g
   .rcases H.cell j z with⟨_,_,_,h⟩|⟨_,aF1,w,u,q,_⟩
    .omega
    .refine .inl ⟨j,z,rfl,b,p,aF1,w,q,u,λR L k=>?_⟩;subst p;exact OH H.s H.t j z b u W R L k
   .refine .inr ⟨4,.inr rfl,λR L k=>?_⟩;rw[b] at hp;refine cUx func320 ?_;exact zC
  .refine .inr ⟨4,.inr rfl,λR L k=>?_⟩;have M:¬((ph j:Int)=1):=Z;refine cUx func320 ?_;exact zC
 .have c:=Du H i F;refine .inr ⟨2,.inl rfl,λR L k=>?_⟩;refine cUx func320 ?_;exact zC
def a77{R:Rt}(H:i9 own f m S n sz aEY ph ow ge xs A)(i g p q:Int):
  Cl R.Y.Y.Y.Y 239 [.ptr S 0,Q i,Q g,Q p,Q q] f m (λv y L=>B f m y L/\∃(s:aI) (e:Int),v= .cI [.str s,Q e]/\(∀b∈s,b<256)/\(e=0->(s.length:Int)=q)/\(e≠0->s= [])):=by
 intro k x E;rcases SY H i g with⟨j,z,rfl,C,hg,o,w,d,u,t⟩|⟨e,h,t⟩
 .refine cUx func239 ?_;simp only[go_sem,t, ↓ag 322];apply(a5o d p q).bu;rintro v r l ⟨P,a⟩;by_cases c:SG sz p q=true
  .rw [ao c] at a;obtain⟨s,rfl,N,M⟩:=a;refine zS ?_;grind
  .rw [aj c] at a;subst a;refine zS ?_;grind
 .have F:=t;rcases h with rfl|rfl
  .refine cUx func239 ?_;refine zS ?_;exact E _ _ _ ⟨B.refl _ _,[],2,rfl,G,Z,G⟩
  .refine cUx func239 ?_;refine zS ?_;exact E _ _ _ ⟨B.refl _ _,[],4,rfl,G,Z,G⟩
def a1O{R:Rt}(H:i9 own f m S n sz aEY ph ow ge xs A)(C:∀x,m<=x->own x=0)(i g p:Int)(s)(M:∀b∈s,b<256)(hl:s.length<=9223372036854775807):
  Cl R.Y.Y.Y.Y 238 [.ptr S 0,Q i,Q g,Q p,.str s] f m (λv y L=>(∃e:Int,v=Q e)/\i9 own y L S n sz aEY ph ow ge xs A/\Fr PS own f m own y L):=by
 intro k T E;have d:=H.s.n1;rcases SY H i g with⟨j,z,rfl,h1,hg,aF1,w,q,u,a⟩|⟨e,he,a⟩
 .refine cUx func238 ?_;simp only[go_sem,a, ↓ag 321];apply(a0d q C Z Z p s M hl).bu;rintro v r l ⟨rfl,⟨ba1,o⟩,P⟩;have fin:i9 own r l S n sz aEY ph ow ge xs A:=by
   refine⟨H.s.ah P Z,H.t.ah P Z,H.fr.ah P Z Z Z,H.ct.ah P Z,H.cs,H.nd,H.mem,H.ow1,H.ow0,H.ge,λx hx=>?_,H.z1,H.z2⟩;by_cases e2:x=j
   .subst e2;rcases H.cell x hx with⟨_,_,_,h⟩|⟨h1,B',ba',N,hB',F⟩
    .omega
    .rw [u] at N;cases N;exact .inr ⟨h1,aF1,ba1,u,o,λh=>Z⟩
   .exact (H.cell x hx).ah P Z Z Z
  refine zS ?_;exact E _ _ _ ⟨W,fin,P.mono (λc h=>Jy)⟩
 .rcases he with rfl|rfl
  .refine cUx func238 ?_;refine zS ?_;exact E _ _ _ ⟨W,H,Fr.refl _ _ _ _⟩
  .refine cUx func238 ?_;refine zS ?_;exact E _ _ _ ⟨W,H,Fr.refl _ _ _ _⟩
def SZ(H:i9 own f m S n sz aEY ph ow ge xs A)(R:Rt)(L:Nat)(k):R.Y.call 110 [.ptr S 0] (.fn f L) k=k (Q sz) (.fn f L):=by have P:=H.s.aS.obj;have M:=H.s.g3;refine cUx func110 ?_;exact zC
end
end
end Go.Ev.Sy
namespace Go.Ev.Sy
open Go Go.Ev Go.Proofs
variable{c i j m mm te:Nat}{own:aG}{f:av}{lT zs:ay}{g:dA}
section
variable {α:Type} {cs:α->ay} {z:Nat} (hz:∀a,(cs a).length=z)
include hz
def sH(l:List α):(l.flatMap cs).length=l.length*z:=by
 induction l with
 |nil=>simp
 |cons x t H=>grind
def flat_get(l:List α)(h:i<l.length)(a:j<z):bI (l.flatMap cs) (i*z+j)=bI (cs l[i]) j:=by
 have e:l.flatMap cs=(l.take i).flatMap cs++(cs l[i]++(l.drop (i+1)).flatMap cs):=by rw[←kj,←mK];congr 1;simp
 have t:((l.take i).flatMap cs).length=i*z:=by rw[sH hz,uF,FL Z]
 rw[e,mj,t,aj Z,show i*z+j-i*z=j by omega,mj,hz,ao a]
def a4I(l:List α)(i:Nat)(h:i<l.length)(a:α)(q:Nat)(N:q<l.length*z):bI ((l.set i a).flatMap cs) q=if i*z<=q/\q<i*z+z then bI (cs a) (q-i*z) else bI (l.flatMap cs) q:=by
 have b:0<z:=by
  rcases qD z with e|e
  .grind
  .exact e
 have e:q=q/z*z+q%z:=by rw[Nat.mul_comm];exact(Nat.div_add_mod q z).symm
 have R:=ke q b;have f:q/z<l.length:=Nat.div_lt_of_lt_mul W;generalize j:q/z=d at *;generalize c:q%z=r at *;subst e;rw[flat_get hz _ W R,flat_get hz _ f R];by_cases g:d=i
 .grind
 .rw [aj ?_]
  .grind
  .intro h;rcases Nat.lt_or_gt_of_ne g with A|A
   .have:=nW z G;grind
   .have:=nW z G;grind
end
def ZC{α:Type}(cs:α->ay)(l:List α)(i:Nat)(h:i<l.length):(l.take (i+1)).flatMap cs=(l.take i).flatMap cs++cs l[i]:=by rw[jr h,mK];simp
def bS.put{z n o:Nat}{cp:Cp}{w:Bool}{cs s:ay}(b:At own c f m i (.row te mm 0 w zs (.cf g)))(e:cs.length=n*z)(d:o+n*z<=mm)(r:∀j,j<n*z->g (o+j)=bI cs j)(F:∀j,j<mm->g j≠ .undef)(y:IC cp n o z mm)
  {j:Nat} (k:j<n) (H:s.length=z) (a:∀u∈s,u≠ .undef) (hl:lT.length=n*z) (M:∀q,q<n*z->bI lT q=if j*z<=q/\q<j*z+z then bI s (q-j*z) else bI cs q):
  bS own c (bw f i (.row te mm 0 w zs (.cf (laid (o+j*z) s g)))) m te z (.sl i o n cp) n lT:=by
 refine .inr ⟨i,o,cp,mm,w,zs,_,rfl,⟨aK ..,b.own,b.lt⟩,hl,d,λq N=>?_,λq N=>?_,y⟩
 .rw [M q N];by_cases h:j*z<=q/\q<j*z+z
  .rw [ao h,du Z Z];grind
  .rw [aj h,dL Z,r q N]
 .by_cases h:o+j*z<=q/\q<o+j*z+s.length
  .rw [du h.1 h.2];exact pz a Z
  .rw [dL h];grind
end Go.Ev.Sy
namespace Go.Ev.Sy
open Go Go.Ev Go.Proofs
open Tryz
noncomputable section
def chC(ph:aG)(ow ge:dc)(i:Nat):ay:=[Q (ph i),Q (ow i),Q (ge i)]
def Ip(ph ow ge)(i:Nat):(chC ph ow ge i).length=3:=rfl
def Io(n:Nat)(ph:aG)(ow ge:dc):ay:=(List.range n).flatMap (chC ph ow ge)
section
variable {own:aG} {f:av} {m S n sz aEY:Nat} {ph:aG} {ow ge:dc} {xs:aI} {A:SL}
def vT(H:i9 own f m S n sz aEY ph ow ge xs A)(i:Nat)(F:i<n)(R:Rt):
  Cl R.Y.Y.Y 68 [.ptr S 0,Q i] f m (λv y L=>v= .cI [.agg [Q (ph i),Q (ow i),Q (ge i)],.bool true]/\B f m y L):=JH H.s H.t i F R
def a1R{R:Rt}(H:i9 own f m S n sz aEY ph ow ge xs A):
  Cl R.Y.Y.Y.Y 41 [.ptr S 0] f m (λv y L=>B f m y L/\i7 y L 151 3 v n (Io n ph ow ge)/\Nw m v):=by
 intro k T hk;have hS:=H.s.aS.obj;have N:=H.s.g2;have M:=vS H.s;have n1:=H.s.n1;have n9:n<=9223372036854775807:=Z;have d1:n<=4294967296:=Z;have d2:24*n<=281474976710656:=Z;have d3:(0:Int)<=(n:Nat):=Z;refine cUx func41 ?_;refine zS ?_;refine cU (x:=.exit 0) (n:=n) (aF0:=λr e y L=>∃(j:Nat) (g:dA),j+r=n/\(eg 0).get e= .ptr S 0/\(eg 3).get e= .sl m 0 n (.known n)/\(eg 15).get e=Q n/\(eg 16).get e=Q j/\y m=(.row 151 (n*3) 0 true [.num 0,.num 0,.num 0] (.cf g))/\(∀x,x<j*3->g x=bI (Io n ph ow ge) x)/\B f m y L/\m<L)
  (E:=λe y L=>∃(g:dA),(eg 3).get e= .sl m 0 n (.known n)/\y m=(.row 151 (n*3) 0 true [.num 0,.num 0,.num 0] (.cf g))/\(∀x,x<n*3->g x=bI (Io n ph ow ge) x)/\B f m y L/\m<L) ?_ J2 ?_ ?_
 .exact ⟨0,_,Z,E6,E6,E6,E6,T9,Z,(B.w (m2:=m) Qc E1),W⟩
 .rintro r e f1 l ⟨j,g,hjr,e0,e3,t,u,ny,p,P,b⟩ rr kx hr hE;unfold iB;by_cases mO:j<n
  .have c1:(j:Int)<n:=by omega
   have ew:IntKind.i64.wrap ((j:Int)+1)=((j+1:Nat):Int):=Qf;simp only[go_sem,e0,e3,t,u,c1, ↓ag 68];apply(vT (H.gr P) j mO _).bu;rintro v d C ⟨rfl,q2⟩;have aur:d m=(.row 151 (n*3) 0 true [.num 0,.num 0,.num 0] (.cf g)):=by rw[q2.ah m b];exact ny
   have c2:j*3+3<=n*3:=Z;refine zS ?_;refine hr (r-1) _ _ _ Z ⟨j+1,laid (j*3) (chC ph ow ge j) g,Z,E6,E6,E6,E6,aK ..,λx hx=>?_,(P.trans q2).bw Z,D6⟩;by_cases h:j*3<=x
   .rw [du h (by rw[Ip];omega)];have N:=flat_get (z:=3) (λa=>Ip ph ow ge a) (List.range n) (i:=j) W (j:=x-j*3) Z;rw[show j*3+(x-j*3)=x by omega,List.getElem_range] at N;exact N.symm
   .rw [dL Z];grind
  .have c1:¬(j:Int)<n:=by omega
   obtain rfl:j=n:=Z;refine zS ?_;exact hE _ _ _ ⟨g,e3,ny,p,P,b⟩
 .rintro e y L ⟨g,e3,ny,p,q,hm⟩;refine zS ?_;refine hk _ _ _ ⟨q,.inr ⟨m,0,_,_,_,_,_,g,rfl,hm,ny,?_,Z,λj hj=>W,?_⟩,λx o n c e=>Xg⟩
  .unfold Io;rw[sH (z:=3) (λa=>Ip _ _ _ a),List.length_range]
  .intro v hv;unfold Io at hv;obtain⟨i,_,F⟩:=xr.1 hv;unfold chC at F;simp at F;rcases F with rfl|rfl|rfl<;>exact iW _
end
end
end Go.Ev.Sy
namespace Go.Ev.Sy
open Go Go.Ev Go.Proofs
noncomputable section
variable{t u:Nat}{N:V}{xs ys:ay}
def acH(T:TI):Bool:=match T.desc with | .bool=>true|_=>false
def Sc2(u:Nat)(x y:V):Prop:=(ly u Dl=true/\∃a b:Int,x=Q a/\y=Q b)\/(ly u acH=true/\∃a b:Bool,x= .bool a/\y= .bool b)
def a7h{x y:V}(h:Sc2 u x y)(d:Nat):(∃j,K.ty u=some j/\iC j.desc=false)/\∃b,∀q,(mF K (d+1) u).run x y q=q b:=by
 rcases h with⟨h,a,b,rfl,rfl⟩|⟨h,a,b,rfl,rfl⟩
 .obtain ⟨S,A,N⟩:=cz h;unfold Dl at N;split at N
  .rename_i f;refine⟨⟨S,A,U2⟩,pb (a=b),λq=>?_⟩;rw[mF,A];simp only[f];exact Cg a b q
  trivial
 .obtain ⟨S,A,N⟩:=cz h;unfold acH at N;split at N
  .rename_i f;refine⟨⟨S,A,U2⟩,aR a b (jw b),λq=>?_⟩;rw[mF,A];simp only[f];trivial
  trivial
def Ci(ks:List (Nat×Nat))(T:TI):Bool:=match T.desc with
 |.struct l => aR T.yE false (aR T.guard false (aR (decide (l.toList.map (λf => (f.type, f.offset)) = ks)) (l.toList.all (λf => jw (decide (f.name = "_")))) false))
 |_=>false
def ZL(e:EqV)(f off:Nat)(r:NG)(xs ys)(q:Bool->Bool):(ka e false f off r).run xs ys q=jZ xs off (λx=>jZ ys off (λy=>e.run x y (λc=>aR c (r.run xs ys q) (q false)))):=G
def a8P(d : Nat) : ∀ l : List Field, (∀ f ∈ l, decide (f.name = "_") = false) -> (∀ f ∈ l, f.offset < xs.length /\ f.offset < ys.length /\ Sc2 f.type (bI xs f.offset) (bI ys f.offset)) ->
  ∃ b, ∀ q, (cE (⟨λ_ _ q => q true⟩ : NG) (λf _ r => match decide (f.name = "_"), K.ty f.type with
      |false,some j=>ka (mF K (d+1) f.type) (iC j.desc) j.sz f.offset r
      |_,_=>yo) l).run xs ys q=q b:=by
 intro l
 induction l with
 |nil=>exact λ_ _=>⟨true,λq=>rfl⟩
 |cons f l H=>intro g h;obtain⟨b,s⟩:=H W W;obtain⟨A,N,M⟩:=h f W;obtain⟨⟨j,u,a⟩,c,F⟩:=a7h M d;refine⟨aR c b false,λq=>?_⟩;rw[ga];simp only[g f W,u,a];rw[ZL,sy (bT A),sy (bT N),←dH A,←dH N,F,s];cases c<;>rfl
def cmS(t:Nat)(v w:V)(q:Bool->Bool):Bool:=V.dY v (λ_=>V.dY w (λ_=>(mF K 20 t).run v w q))
@[congr] theorem awb{v w w':V}(q:Bool->Bool)(h:v=N)(a:w=w'):cmS t v w q=cmS t N w' q:=W
def adS(t:Nat)(x y:Operand):fy:=⟨λ_ e h k=>cmS t ((ax x).get e) ((ax y).get e) (λb=>lp b (λv=>k v h))⟩
@[go_sem ↓]def ary(t:Nat)(x y:Operand)(R e h k):(adS t x y).run R e h k=cmS t ((ax x).get e) ((ax y).get e) (λb=>lp b (λv=>k v h)):=G
def nN{ks:List (Nat × Nat)}(hc : ly t (Ci ks) = true) : ∃ T l, K.ty t = some T /\ T.desc = .struct l /\ T.yE = false /\ T.guard = false /\ l.toList.map (λf => (f.type, f.offset)) = ks /\ ∀ f ∈ l.toList, decide (f.name = "_") = false := by
 obtain⟨T,A,N⟩:=cz hc;unfold Ci at N;split at N
 .rename_i l a;cases M:T.yE with
  |true=>rw[M] at N;trivial
  |false=>
   cases p:T.guard with
   |true=>rw[M,p] at N;trivial
   |false=>
    rw[M,p] at N;by_cases E:l.toList.map (λf=>(f.type,f.offset))=ks
    .rw [dI E] at N;refine⟨T,l,A,a,M,p,E,λf H=>?_⟩;have:=uK.1 N f H;cases s : decide (f.name = "_") with
     |false=>rfl
     |true=>rw[s] at this;trivial
    .rw [dB E] at N;trivial
 trivial
def ajb{ks:List (Nat×Nat)}(hc:ly t (Ci ks)=true)(x y:Nat):da K .eql t (.tmp x) (.tmp y)=adS t (.tmp x) (.tmp y):=by obtain⟨S,l,A,f,M,p,_⟩:=nN hc;apply fy.ext;intro R e h k;unfold da;simp only[A,f];unfold IP;simp only[A,f,p,sB];rfl
def ajp{T:TI}{l:Array Field}(A:K.ty t=some T)(hd:T.desc= .struct l)(M:T.yE=false)(d:Nat)(xs ys)(q:Bool->Bool):
  (mF K (d + 1) t).run (.agg xs) (.agg ys) q = (cE (⟨λ_ _ q => q true⟩ : NG) (λf _ r => match decide (f.name = "_"), K.ty f.type with
      |false,some j=>ka (mF K d f.type) (iC j.desc) j.sz f.offset r
      |_,_=>yo) l.toList).run xs ys q:=by
 rw[mF,A];simp only[hd,M];rfl
def a5f{D:Nat}(n:20=D){q:Bool->Bool}{b:Bool}(h:(mF K D t).run (.agg xs) (.agg ys) q=q b):cmS t (.agg xs) (.agg ys) q=q b:=by subst n;trivial
def adT{ks:List (Nat×Nat)}(hc:ly t (Ci ks)=true)(h:∀p∈ks,p.2<xs.length/\p.2<ys.length/\Sc2 p.1 (bI xs p.2) (bI ys p.2)):∃b,∀q,cmS t (.agg xs) (.agg ys) q=q b:=by obtain⟨S,l,A,a,M,c,E,g⟩:=nN hc;obtain⟨b,s⟩:=a8P (xs:=xs) (ys:=ys) 18 l.toList g (λf H=>by have R:(f.type,f.offset)∈ks:=Vr;grind);exact⟨b,λq=>a5f (D:=18+1+1) I ((ajp A a M (18+1) xs ys q).trans W)⟩
end
end Go.Ev.Sy
namespace Go.Ev.Sy
open Go Go.Ev Go.Proofs
open Tryz
noncomputable section
@[go_sem ↓]def amn(x y:Nat):da K .eql 367 (.tmp x) (.tmp y)=adS 367 (.tmp x) (.tmp y):=ajb (ks:=[(4,0),(4,1),(3,2),(3,3),(3,4)]) E7 x y
def sU(own:aG)(f:av)(m aEX aEY:Nat):Prop:=∃(n c d x:Int) (a b:Bool),At own 28 f m aEX (.row 369 6 0 true [.num 0,.bool false,.bool false,.num 0,.num 0,.num 0] (.cf (bI [Q n,.bool a,.bool b,Q c,Q d,Q x])))/\(0<=n/\n<=1048576)/\(0<=c/\c<=64)/\(0<=d/\d<=64)/\(0<=x/\x<=aEY)
section
variable {own:aG} {f:av} {m aEX aEY:Nat}
set_option maxHeartbeats 1000000 in
def a1p{R:Rt}(H:sU own f m aEX aEY)(hK:aEY<1048576)(p:Int)(g:0<=p/\p<=64):
  Cl R.Y 325 [.ptr aEX 0,Q p] f m (λv y L=>(∃e,v=Q e)/\sU own y L aEX (aEY+1)/\Fr (· =28) own f m own y L):=by
 intro k M E;obtain⟨n,c,d,x,a,b,N,hn,r,s,S⟩:=H;have i:=N.obj;have u:aEX≠m:=by have:=N.lt;omega
 have j:max p 0=p:=Z;obtain⟨z,C⟩:=adT (ks:=[(4,0),(4,1),(3,2),(3,3),(3,4)]) (t:=367) E7 (xs:=[.bool a,.bool b,Q c,Q d,Q x]) (ys:=[.bool false,.bool false,Q 0,Q 0,Q 0]) (by
  have l:ly 3 Dl=true:=E7;have o:ly 4 acH=true:=E7;intro p g;simp only[fY,lG,or_false] at g;rcases g with rfl|rfl|rfl|rfl|rfl
  .exact ⟨W,G,.inr ⟨o,a,false,rfl,rfl⟩⟩
  .exact ⟨W,G,.inr ⟨o,b,false,rfl,rfl⟩⟩
  .exact ⟨W,G,.inl ⟨l,c,0,rfl,rfl⟩⟩
  .exact ⟨W,G,.inl ⟨l,d,0,rfl,rfl⟩⟩
  .exact ⟨W,G,.inl ⟨l,x,0,rfl,rfl⟩⟩)
 have P:IntKind.i64.wrap (x+1)=x+1:=cB Z;have A:∀(c d x:Int) (a b:Bool) F e,F aEX=(.row 369 6 0 true [.num 0,.bool false,.bool false,.num 0,.num 0,.num 0] (.cf (bI [Q n,.bool a,.bool b,Q c,Q d,Q x])))->(0<=c/\c<=64)->(0<=d/\d<=64)->(0<=x/\x<=(aEY+1:Nat))->Fr (· =28) own f m own F (pl m 1)->k (Q e) (.fn F (pl m 1))=M:=
  λc d x a b F e h r s S q=>E _ _ _ ⟨W,⟨n,c,d,x,a,b,⟨h,N.own,by have:=N.lt;unfold pl;omega⟩,hn,r,s,S⟩,q⟩
 by_cases hl:p<n<;>cases z<;>cases b<;>cases a
 all_goals
  refine cUx func325 ?_;simp only[go_sem,i,u,u.symm,j,C,hl,P]
 all_goals refine A _ _ _ _ _ _ _ (aK ..) ?_ ?_ ?_ (Fr.w (m2:=m) (by repeat (first|exact Fr.refl _ _ _ _|refine Fr.bw ?_ V9)) E1)
 all_goals omega
def a1o(H:sU own f m aEX aEY):∃e:Int,(-1048576<=e/\e<=1048576)/\∀(R:Rt) (L:Nat) (k:cR),R.Y.Y.call 327 [.ptr aEX 0] (.fn f L) k=k (Q e) (.fn f L):=by
 obtain⟨n,c,d,x,a,b,N,g,F,j,S⟩:=H;have i:=N.obj;have h:IntKind.i64.wrap (n-c)=n-c:=cB Z;have t:∀(R:Rt) (L:Nat) (k:cR),R.Y.call 382 [.ptr aEX 0] (.fn f L) k=k (.bool a) (.fn f L):=by intro R L k;refine cUx func382 ?_;exact zC
 cases a with
 |true=>refine⟨n-c,Z,λR L k=>?_⟩;refine cUx func327 ?_;exact zC
 |false=>refine⟨0,Z,λR L k=>?_⟩;refine cUx func327 ?_;exact zC
def a6F(own f)(m:Nat)(R:Rt)(n:Nat)(N:n<=1048576):
  Cl R.Y 113 [Q n] f m (λv y L=>∃aEX t,v= .ptr aEX 0/\sU t y L aEX 0/\Fr (λ_=>False) own f m t y L):=by
 intro k S E;have c1:¬(n:Int)<0:=Z;have c2:¬(1048576:Int)<n:=Z;refine cUx func113 ?_;refine zS ?_;refine fG ?_;intro F j;have p:Fr (λ_=>False) own f m (cm own m [28]) F (pl m 1):=by refine Fr.cm (P:=λ_=>False) ?_ G;rw[j];exact B.fr (B.w (m2:=m) Qc E1) _ _
 have s:(V.num 0)=Q 0:=G;exact E _ _ _ ⟨m,_,rfl,⟨n,0,0,0,false,false,ez (by rw[j,←s];exact aK ..) rfl G,Z,Z,Z,Z⟩,p⟩
end
variable{i m te:Nat}{f:av}
def i7.at{z n:Nat}{v:V}{cs:ay}(h:i7 f m te z v n cs)(F:i<n):∃b o cp mm fz w zs g,v= .sl b o n cp/\b<m/\f b= .row te mm fz w zs (.cf g)/\o+i*z+z<=mm/\∀j,j<z->g (o+i*z+j)=bI cs (i*z+j):=by
 rcases h with⟨_,rfl,_⟩|⟨b,o,cp,mm,fz,w,zs,g,A,N,M,u,r,a,y⟩
 .trivial
 .have:i*z+z<=n*z:=by rw[←NV];exact nW z F
  exact⟨b,o,cp,mm,fz,w,zs,g,A,N,M,Z,λj c=>W⟩
def i7.len{z n:Nat}{v:V}{cs:ay}(h:i7 f m te z v n cs):(v= .au/\n=0)\/∃b o cp,v= .sl b o n cp:=by
 rcases h with h|⟨b,o,cp,a,t,w,P,g,A,_⟩
 .grind
 grind
def i7.bC{z n:Nat}{v:V}{cs:ay}(h:i7 f m te z v n cs):v≠ .undef:=by rcases h with⟨rfl,_⟩|⟨_,_,_,_,_,_,_,_,rfl,_⟩<;>exact λh=>Q8
def ll.bC{v:V}{xs:dC}(h:ll f m v xs):v≠ .undef:=by rcases h with⟨rfl,_⟩|⟨_,_,_,_,_,_,_,_,rfl,_⟩<;>exact λh=>Q8
def l8(e:bs):Nat->dc
 |_,0=>-1
 |i,r+1=>if e i=true then(i:Int) else l8 e (i+1) r
def tK(e:bs)(i r:Nat):l8 e i (r+1)=if e i=true then(i:Int) else l8 e (i+1) r:=rfl
def iZ(e:bs):∀i r,(l8 e i r= -1/\∀j,i<=j->j<i+r->e j=false)\/∃j,i<=j/\j<i+r/\e j=true/\l8 e i r=j/\∀k,i<=k->k<j->e k=false
 |i,0=>.inl ⟨rfl,Z⟩
 |i,r+1=>by
  unfold l8;by_cases h:e i=true
  .grind
  .rw [aj h];have s:e i=false:=R8;rcases iZ e (i+1) r with⟨A,N⟩|⟨j,A,N,M,u,a⟩
   .grind
   grind
section
variable {f:av} {m n:Nat} {v:V} {cs:ay}
def nu{R:Rt}(h:i7 f m 149 4 v n cs)(hn:n<=4096)(ci:Nat->dc)(Cr:∀i,i<n->∀j,j<4->bI cs (i*4+j)=Q (ci i j))(l:Nat)(hfc:eW K l=iM l)(a)(pr:bs)
  (hc:∀i,i<n->∀F M,B f m F M->Cl R l (.agg [Q (ci i 0),Q (ci i 1),Q (ci i 2),Q (ci i 3)]::a) F M (λv y L=>v= .bool (pr i)/\B F M y L)):
  Cl R.Y 365 [v,.fn l [] a] f m (λv y L=>v=Q (l8 pr 0 n)/\B f m y L):=by
 intro k T hk;rcases h.len with⟨rfl,rfl⟩|⟨b,o,cp,rfl⟩
 .refine cUx func365 ?_;refine zS ?_;refine a3w ?_;unfold iB;refine zS ?_;exact hk _ _ _ ⟨rfl,W⟩
 have n9:n<=9223372036854775807:=Z;refine cUx func365 ?_;refine zS ?_;refine kW (n:=n) (aF0:=λr e y L=>∃i:Nat,i+r=n/\(eg 0).get e= .sl b o n cp/\(eg 1).get e= .fn l [] a/\(eg 7).get e=Q n/\(eg 8).get e=Q i/\B f m y L/\l8 pr 0 n=l8 pr i r)
  (E:=λx e y L=>B f m y L/\(x= .exit 0/\l8 pr 0 n= -1\/x= .ret/\(eg 4).get e=Q (l8 pr 0 n))) ?_ J2 ?_ ?_
 .exact ⟨0,Z,G,G,G,G,W,rfl⟩
 .rintro r e y L ⟨i,Uu,c,u,d,e8,s,S⟩ rr kx hr hE;unfold iB;by_cases A:i<n
  .obtain ⟨b',o',cp',mm,fz,w,P,g,t,Uz,H,nz,p⟩:=(h.gr s).at A;cases t;have c1:(i:Int)<n:=Z;have ai4:o+i*4<mm:=Z;have LN:g (o+i*4)=Q (ci i 0):=(p 0 I).trans W;have ve:g (o+i*4+1)=Q (ci i 1):=W;have xm:g (o+i*4+2)=Q (ci i 2):=W;have hg3:g (o+i*4+3)=Q (ci i 3):=W;have a4c:r=(r-1)+1:=Z;simp only[go_sem,c,u,d,e8,c1,A,H,nz,LN,ve,xm,hg3,hfc, ↓ag l];apply(hc i A _ _ s).bu;rintro v f2 m2 ⟨rfl,z⟩;rw[a4c,tK] at S;have N:IntKind.i64.wrap ((i:Int)+1)=((i+1:Nat):Int):=Qf;cases hp:pr i with
   |true=>rw[ao hp] at S;refine zS ?_;exact hE _ _ _ _ ⟨s.trans z,.inr ⟨rfl,N9⟩⟩
   |false=>rw[aj W] at S;simp only[go_sem,e8,N];exact hr (r-1) _ _ _ Z ⟨i+1,Z,E6,E6,E6,E6,W,S⟩
  .have c1:¬((i:Int)<n):=by omega
   refine zS ?_;obtain rfl:r=0:=Z;exact hE _ _ _ _ ⟨s,.inl G⟩
 .rintro x e y L ⟨s,⟨rfl,S⟩|⟨rfl,C⟩⟩
  .rw [S] at hk;simp only[go_sem];grind
  .simp only[go_sem,C];grind
end
section
variable {f:av} {m n:Nat} {v:V} {cs:ay}
def Hu{R:Rt}(h:i7 f m 49 5 v n cs)(hn:n<=4096)(ci:Nat->dc)(Cr:∀i,i<n->∀j,j<5->bI cs (i*5+j)=Q (ci i j))(l:Nat)(hfc:eW K l=iM l)(a)(pr:bs)
  (hc:∀i,i<n->∀F M,B f m F M->Cl R l (.agg [Q (ci i 0),Q (ci i 1),Q (ci i 2),Q (ci i 3),Q (ci i 4)]::a) F M (λv y L=>v= .bool (pr i)/\B F M y L)):
  Cl R.Y 506 [v,.fn l [] a] f m (λv y L=>v=Q (l8 pr 0 n)/\B f m y L):=by
 intro k T hk;rcases h.len with⟨rfl,rfl⟩|⟨b,o,cp,rfl⟩
 .refine cUx func506 ?_;refine zS ?_;refine a3w ?_;unfold iB;refine zS ?_;exact hk _ _ _ ⟨rfl,W⟩
 have n9:n<=9223372036854775807:=Z;refine cUx func506 ?_;refine zS ?_;refine kW (n:=n) (aF0:=λr e y L=>∃i:Nat,i+r=n/\(eg 0).get e= .sl b o n cp/\(eg 1).get e= .fn l [] a/\(eg 7).get e=Q n/\(eg 8).get e=Q i/\B f m y L/\l8 pr 0 n=l8 pr i r)
  (E:=λx e y L=>B f m y L/\(x= .exit 0/\l8 pr 0 n= -1\/x= .ret/\(eg 4).get e=Q (l8 pr 0 n))) ?_ J2 ?_ ?_
 .exact ⟨0,Z,G,G,G,G,W,rfl⟩
 .rintro r e y L ⟨i,Uu,c,u,d,e8,s,S⟩ rr kx hr hE;unfold iB;by_cases A:i<n
  .obtain ⟨b',o',cp',mm,fz,w,P,g,t,Uz,H,nz,p⟩:=(h.gr s).at A;cases t;have c1:(i:Int)<n:=Z;have ai4:o+i*5<mm:=Z;have LN:g (o+i*5)=Q (ci i 0):=(p 0 I).trans W;have ve:g (o+i*5+1)=Q (ci i 1):=W;have xm:g (o+i*5+2)=Q (ci i 2):=W;have hg3:g (o+i*5+3)=Q (ci i 3):=W;have hg4:g (o+i*5+4)=Q (ci i 4):=W;have a4c:r=(r-1)+1:=Z;simp only[go_sem,c,u,d,e8,c1,A,H,nz,LN,ve,xm,hg3,hg4,hfc, ↓ag l];apply(hc i A _ _ s).bu;rintro v f2 m2 ⟨rfl,z⟩;rw[a4c,tK] at S;have N:IntKind.i64.wrap ((i:Int)+1)=((i+1:Nat):Int):=Qf;cases hp:pr i with
   |true=>rw[ao hp] at S;refine zS ?_;exact hE _ _ _ _ ⟨s.trans z,.inr ⟨rfl,N9⟩⟩
   |false=>rw[aj W] at S;simp only[go_sem,e8,N];exact hr (r-1) _ _ _ Z ⟨i+1,Z,E6,E6,E6,E6,W,S⟩
  .have c1:¬((i:Int)<n):=by omega
   refine zS ?_;obtain rfl:r=0:=Z;exact hE _ _ _ _ ⟨s,.inl G⟩
 .rintro x e y L ⟨s,⟨rfl,S⟩|⟨rfl,C⟩⟩
  .rw [S] at hk;simp only[go_sem];grind
  .simp only[go_sem,C];grind
end
section
variable {f:av} {m n:Nat} {v:V} {cs:ay}
def QN{R:Rt}(h:i7 f m 222 2 v n cs)(hn:n<=4096)(ci:Nat->dc)(Cr:∀i,i<n->∀j,j<2->bI cs (i*2+j)=Q (ci i j))(l:Nat)(hfc:eW K l=iM l)(a)(pr:bs)
  (hc:∀i,i<n->∀F M,B f m F M->Cl R l (.agg [Q (ci i 0),Q (ci i 1)]::a) F M (λv y L=>v= .bool (pr i)/\B F M y L)):
  Cl R.Y 318 [v,.fn l [] a] f m (λv y L=>v=Q (l8 pr 0 n)/\B f m y L):=by
 intro k T hk;rcases h.len with⟨rfl,rfl⟩|⟨b,o,cp,rfl⟩
 .refine cUx func318 ?_;refine zS ?_;refine a3w ?_;unfold iB;refine zS ?_;exact hk _ _ _ ⟨rfl,W⟩
 have n9:n<=9223372036854775807:=Z;refine cUx func318 ?_;refine zS ?_;refine kW (n:=n) (aF0:=λr e y L=>∃i:Nat,i+r=n/\(eg 0).get e= .sl b o n cp/\(eg 1).get e= .fn l [] a/\(eg 7).get e=Q n/\(eg 8).get e=Q i/\B f m y L/\l8 pr 0 n=l8 pr i r)
  (E:=λx e y L=>B f m y L/\(x= .exit 0/\l8 pr 0 n= -1\/x= .ret/\(eg 4).get e=Q (l8 pr 0 n))) ?_ J2 ?_ ?_
 .exact ⟨0,Z,G,G,G,G,W,rfl⟩
 .rintro r e y L ⟨i,Uu,c,u,d,e8,s,S⟩ rr kx hr hE;unfold iB;by_cases A:i<n
  .obtain ⟨b',o',cp',mm,fz,w,P,g,t,Uz,H,nz,p⟩:=(h.gr s).at A;cases t;have c1:(i:Int)<n:=Z;have ai4:o+i*2<mm:=Z;have LN:g (o+i*2)=Q (ci i 0):=(p 0 I).trans W;have ve:g (o+i*2+1)=Q (ci i 1):=W;have a4c:r=(r-1)+1:=Z;simp only[go_sem,c,u,d,e8,c1,A,H,nz,LN,ve,hfc, ↓ag l];apply(hc i A _ _ s).bu;rintro v f2 m2 ⟨rfl,z⟩;rw[a4c,tK] at S;have N:IntKind.i64.wrap ((i:Int)+1)=((i+1:Nat):Int):=Qf;cases hp:pr i with
   |true=>rw[ao hp] at S;refine zS ?_;exact hE _ _ _ _ ⟨s.trans z,.inr ⟨rfl,N9⟩⟩
   |false=>rw[aj W] at S;simp only[go_sem,e8,N];exact hr (r-1) _ _ _ Z ⟨i+1,Z,E6,E6,E6,E6,W,S⟩
  .have c1:¬((i:Int)<n):=by omega
   refine zS ?_;obtain rfl:r=0:=Z;exact hE _ _ _ _ ⟨s,.inl G⟩
 .rintro x e y L ⟨s,⟨rfl,S⟩|⟨rfl,C⟩⟩
  .rw [S] at hk;simp only[go_sem];grind
  .simp only[go_sem,C];grind
end
def FX(x:Int):IntKind.i64.wrap x<=9223372036854775807:=by unfold IntKind.wrap;simp[IntKind.signed,IntKind.bits];omega
section
variable {own:aG} {f:av} {m:Nat}
def agn{b:Nat}{y:Int}(s:f b=(.row 3 1 0 true [.num 0] (.cf (bI [Q y]))))(x:Int)(R:Rt)(k):R.Y.call 427 [Q x,.ptr b 0] (.fn f m) k=k (Q (max (min x y) 0)) (.fn (bw f b (.row 3 1 0 true [.num 0] (.cf (bI [Q (IntKind.i64.wrap (y-max (min x y) 0))])))) m):=by refine cUx func427 ?_;exact zC
def OM{R:Rt}{v:V}{is:dC}(h:ll f m v is)(hl:is.length<=64)(y:Int)(hy:y<=9223372036854775807):
  Cl R.Y.Y 381 [Q y,v] f m (λv' f' L=>B f m f' L/\∃p g,v'= .sl p 0 is.length (.known is.length)/\m<=p/\p<L/\f' p=(.row 3 (is.length) 0 true [.num 0] (.cf g))/\∀j,j<is.length->∃x:Int,g j=Q x/\x<=9223372036854775807):=by
 intro k S hk;have hlen:=h.jD Z;have n9:is.length<=9223372036854775807:=Z;have d1:is.length<=4294967296:=Z;have d2:8*is.length<=281474976710656:=Z;have d3:(0:Int)<=(is.length:Nat):=Z;have hu:=h.bC;refine cUx func381 ?_;simp only[go_sem,hlen,bN hu,d1,d2];generalize hN:is.length=N at *;refine cU (x:=.exit 0) (n:=N) (aF0:=λr e f' L=>∃(j:Nat) (g:dA) (u:Int),j+r=N/\(eg 5).get e= .fn 427 [] [.ptr m 0]/\(eg 6).get e= .sl (pl m 1) 0 N (.known N)/\(eg 13).get e=v/\(eg 14).get e=Q N/\(eg 15).get e=Q j/\f' m=(.row 3 1 0 true [.num 0] (.cf (bI [Q u])))/\u<=9223372036854775807/\f' (pl m 1)=(.row 3 N 0 true [.num 0] (.cf g))/\(∀j,j<N->∃x:Int,g j=Q x/\x<=9223372036854775807)/\B f m f' L/\L=pl m 2)
  (E:=λe f' L=>∃(g:dA),(eg 6).get e= .sl (pl m 1) 0 N (.known N)/\f' (pl m 1)=(.row 3 N 0 true [.num 0] (.cf g))/\(∀j,j<N->∃x:Int,g j=Q x/\x<=9223372036854775807)/\B f m f' L/\L=pl m 2) ?_ J2 ?_ ?_
 .have e1:m≠pl m 1:=by grind
  exact⟨0,zf [.num 0],y,Z,E6,E6,E6,E6,E6,E6,hy,E6,λj _=>⟨0,(nU _ j).trans G,I⟩,(B.w (m2:=m) Qd E1),rfl⟩
 .rintro r e f1 m1 ⟨j,g,u,c,e5,e6,a,e14,t,s,hu2,ny,hg,P,rfl⟩ rr kx d hE;unfold iB;by_cases A:j<N
  .obtain ⟨b,o,cp,mm,fz,w,z,F,rfl,Uz,H,l,hgg⟩:=(h.gr P).at (i:=j) Z;have c1:(j:Int)<N:=Z;have c3:j<is.length:=Z;have ew:IntKind.i64.wrap ((j:Int)+1)=((j+1:Nat):Int):=Qf;have e1:m≠pl m 1:=W;have M:=λR k=>agn (m:=pl m 2) s is[j] R k;rw[hN] at *;refine zS ?_;refine d (r-1) _ _ _ Z ⟨j+1,_,_,Z,E6,E6,E6,E6,E6,by rw[aE e1];exact aK ..,FX _,aK ..,λx hx=>?_,(P.bw Z).bw W,rfl⟩;by_cases ex:x=j
   .subst ex;rw[cd];grind
   .rw [a04 ex];grind
  .have c1:¬(j:Int)<N:=by omega
   refine zS ?_;exact hE _ _ _ ⟨g,e6,ny,hg,P,rfl⟩
 .rintro e f' L ⟨g,e6,ny,hg,q,rfl⟩;refine zS ?_;exact hk _ _ _ ⟨q,pl m 1,g,rfl,W,W,ny,hg⟩
end
variable{h h':Heap}{mm ty:Nat}{N:V}{y:av}{zs:ay}{g:dA}
def clN(v:V)(h:Heap)(k:cR):Bool:=V.cK v (λi o n _=>bQ (py [.num 0] (Nat.mul n 1)) [] (λH=>eI i o H h (λh=>k cA h))) (k cA h) false
@[congr] theorem awg{v:V}(k)(A:v=N)(M:h=h'):clN v h k=clN N h' k:=W
def ajK(x:Operand):fy:=⟨λ_ e h k=>clN ((ax x).get e) h k⟩
@[go_sem ↓]def arC(x:Operand)(R e h k):(ajK x).run R e h k=clN ((ax x).get e) h k:=G
@[go_sem ↓]def ajL(x:Operand):aV K .clear [32] [x]=ajK x:=G
def a9i{o n:Nat}{cp:Cp}{w:Bool}(hf:f i= .row ty mm 0 w zs (.cf g))(R:o+n<=mm)(k):
  clN (.sl i o n cp) (.fn f m) k=k cA (.fn (bw f i (.row ty mm 0 w zs (.cf (laid o (List.replicate n (.num 0)) g)))) m):=by
 unfold clN;rw[jt,show Nat.mul n 1=n from nV n,pL,bB,j9,kC];show O.eO (f i) _=_;rw[hf];show aR (Nat.ble (o+eK _) mm) _ false=_;rw[dx,a1f,cw R];show aR (Nat.ble 0 o) _ false=_;rw[cw Z,gM];rfl
def ur(own:aG)(f:av)(m aF1 n:Nat):Prop:=∃r g,At own 29 f m aF1 (.row 364 1 0 true [.au] (.cf (bI [.sl r 0 n (.known n)])))/\At own 29 f m r (.row 3 n 0 true [.num 0] (.cf g))/\n<=64/\∀j,j<n->∃x:Int,g j=Q x/\x<=9223372036854775807
section
variable {own:aG} {f:av} {m aF1 n:Nat}
def ur.ah{P:dF}{t:aG}{L:Nat}(h:ur own f m aF1 n)(q:Fr P own f m t y L)(a:¬P 29):ur t y L aF1 n:=by obtain⟨r,g,A,N,M⟩:=h;exact⟨r,g,A.ah q a,N.ah q a,M⟩
def ll.frv{P:dF}{d:aG}{L:Nat}{v:V}{xs:dC}(h:ll f m v xs)(q:Fr P own f m d y L)(s:∀b o n cp,v= .sl b o n cp->¬P (own b)):ll y L v xs:=by
 rcases h with h|⟨i,o,c,a,t,w,z,F,A,N,M,u,r⟩
 .exact .inl h
 .exact .inr ⟨i,o,c,a,t,w,z,F,A,bW N q.le,Vj,u,r⟩
def a1u(H:ur own f m aF1 n)(i:Int):∃x:Int,x<=9223372036854775807/\∀(R:Rt) (L:Nat) (k:cR),R.Y.call 335 [.ptr aF1 0,Q i] (.fn f L) k=k (Q x) (.fn f L):=by
 obtain⟨r,g,N,d,b,p⟩:=H;have a:=N.obj;have t:=d.obj;have w:n<=9223372036854775807:=Z;by_cases q:i<0
 .refine ⟨0,I,λR L k=>?_⟩;refine cUx func335 ?_;exact zC
 .by_cases c1:(n:Int)<=i
  .refine ⟨0,I,λR L k=>?_⟩;refine cUx func335 ?_;exact zC
  .obtain ⟨j,rfl⟩:∃j:Nat,i=j:=⟨i.toNat,Z⟩;have z:j<n:=Z;obtain⟨x,S,s⟩:=p j z;refine⟨x,s,λR L k=>?_⟩;refine cUx func335 ?_;exact zC
def a1v{R:Rt}(H:ur own f m aF1 n)(i:Nat)(F:i<n)(a:Int)(l:0<=a):
  Cl R.Y 317 [.ptr aF1 0,Q i,Q a] f m (λv y L=>v=Q 0/\ur own y L aF1 n/\Fr (· =29) own f m own y L):=by
 intro k S E;obtain⟨r,g,N,d,b,p⟩:=H;have h:=N.obj;have t:=d.obj;have w:n<=9223372036854775807:=Z;have c:¬(i:Int)<0:=Z;have c1:¬(n:Int)<=i:=Z;have c2:¬a<0:=Z;obtain⟨x,A,s⟩:=p i F;have u:aF1≠r:=W;refine cUx func317 ?_;refine zS ?_;have q:∀o,Fr (· =29) own f m own (bw f r o) m:=λo=>(Fr.refl _ own f m).bw (λ_=>d.own);refine E _ _ _ ⟨rfl,⟨r,_,⟨by rw[aE u];trivial,N.own,N.lt⟩,⟨aK ..,d.own,d.lt⟩,b,λj z=>?_⟩,q _⟩;by_cases e:j=i
 .subst e;rw[cd];exact⟨_,rfl,by have:=FX (x-a);omega⟩
 .rw [a04 e];grind
def a6L{R:Rt}(H:ur own f m aF1 n)(y:Int)(hy:y<=9223372036854775807){v:V}{is:dC}(hI:ll f m v is)(hl:is.length<=n)(hIo:∀b o q cp,v= .sl b o q cp->own b≠29):
  Cl R.Y.Y.Y 326 [.ptr aF1 0,Q y,v] f m (λv f' L=>v=Q 0/\ur own f' L aF1 n/\Fr (· =29) own f m own f' L):=by
 intro k T E;obtain⟨r,g,N,d,hn,hg⟩:=H;have hB:=N.obj;have t:=d.obj;have w:n<=9223372036854775807:=Z;have hlen:=hI.jD Z;have hu:=hI.bC;have c1:¬(n:Int)<is.length:=Z;have u:aF1≠r:=W;have e:=λM k=>a9i (m:=M) (cp:=.known n) t (o:=0) (n:=n) Z k;refine cUx func326 ?_;simp only[go_sem, ↓ajL,hB,w,hlen,bN hu,c1,e,u, ↓ag 381];refine aP ?_;intro F hF;have P:Fr (· =29) own f m own F m:=by rw[hF];exact(Fr.refl _ own f m).bw (λ_=>d.own)
 have hRF:F r=(.row 3 n 0 true [.num 0] (.cf (laid 0 (List.replicate n (.num 0)) g))):=O2;have hBF:F aF1=(.row 364 1 0 true [.au] (.cf (bI [.sl r 0 n (.known n)]))):=by rw[hF,aE u];exact hB
 apply(OM (hI.frv P hIo) Z y hy).bu;rintro v2 f2 C ⟨q2,p,z,rfl,yl,i,s,xm⟩;have hR2:f2 r=(.row 3 n 0 true [.num 0] (.cf (laid 0 (List.replicate n (.num 0)) g))):=by rw[q2.ah r d.lt];exact hRF
 have c:f2 aF1=(.row 364 1 0 true [.au] (.cf (bI [.sl r 0 n (.known n)]))):=by rw[q2.ah aF1 N.lt];exact hBF
 have a:min is.length n=is.length:=Z;have A:=λM k=>UR (f:=f2) (m:=M) (o:=0) (o2:=0) (n:=n) (n2:=is.length) (cp:=.known n) (cp2:=.known is.length) hR2 s Z Z (λj hj=>by rw[dz];obtain⟨x,S,_⟩:=xm j Z;rw[S];exact iW x) k;rw[a] at A;refine zS ?_;have q3:∀o,Fr (· =29) own f m own (bw f2 r o) C:=λo=>(P.trans (q2.fr own (· =29)) Z Z).bw (λ_=>d.own);have hle:=q2.le;have auu:=d.lt;have avv:=N.lt;refine E _ _ _ ⟨rfl,⟨r,_,⟨by rw[aE u];trivial,N.own,Z⟩,⟨aK ..,d.own,Z⟩,hn,λj hj=>?_⟩,W⟩;by_cases h:0<=j/\j<0+((List.range' 0 is.length).map z).length
 .rw [du h.1 h.2,dH Z,rW,AD];grind
 .rw [dL h,du Z W,dH W,Ob];exact⟨0,G,I⟩
def a6K(own f)(m:Nat)(R:Rt)(n:Nat)(N:n<=64):
  Cl R.Y 111 [Q n] f m (λv y L=>∃aF1 t,v= .ptr aF1 0/\ur t y L aF1 n/\Fr (λ_=>False) own f m t y L):=by
 intro k S E;have c1:¬(n:Int)<0:=Z;have c2:¬(64:Int)<n:=Z;have d1:n<=4294967296:=Z;have d2:8*n<=281474976710656:=Z;have d3:(0:Int)<=(n:Nat):=Z;refine cUx func111 ?_;refine zS ?_;refine fG ?_;intro F a;have p:Fr (λ_=>False) own f m (cm own m [29,29]) F (pl m 2):=by refine Fr.cm (P:=λ_=>False) ?_ G;rw[a];exact B.fr (B.w (m2:=m) Qd E1) _ _
 exact E _ _ _ ⟨pl m 1,_,rfl,⟨m,zf [.num 0],gh Zj rfl G,ez G9 rfl G,N,λj z=>⟨0,(nU _ j).trans G,I⟩⟩,p⟩
end
variable{c:Nat}{own:aG}
structure FC where
 q:Nat
 c:Nat
 t:Nat
 hd:Nat
 nx:Nat
 fi:Nat
 g:dA
 tu:dc
@[grind cases] structure kA(own:aG)(f:av)(m L n:Nat)(xs:aI)(a:FC):Prop where
 aL:At own 5 f m L (.row 290 4 0 true [.bg,.au,.num 0,.num 0] (.cf (bI [.ptr a.q 0,.sl a.t 0 n (.known n),Q a.nx,Q a.fi])))
 aq:At own 5 f m a.q (.row 465 3 0 true [.au,.num 0,.num 0] (.cf (bI [.sl a.c 0 n (.known n),Q a.hd,Q xs.length])))
 ac:At own 5 f m a.c (.row 3 n 0 true [.num 0] (.cf (a.g)))
 at_:At own 5 f m a.t (.row 3 n 0 true [.num 0] (.cf (λi=>Q (a.tu i))))
 ne:a.c≠a.t
 n0:0<n
 n1:n<=4096
 h1:a.hd<n
 cells:∀j (h:j<xs.length),a.g ((a.hd+j)%n)=Q xs[j]
 lt:∀x∈xs,x<n
 nd:xs.Nodup
 tu:∀i,i<n->(0<=a.tu i↔i∈xs)
 nx:a.nx<=1099511627776
 fi:a.nx=a.fi+xs.length
def kA.ah{P:dF}{t:aG}{L n:Nat}{xs:aI}{a:FC}(h:kA own f m L n xs a)(g:Fr P own f m t y c)(b:¬P 5):kA t y c L n xs a:=
 ⟨h.aL.ah g b,h.aq.ah g b,h.ac.ah g b,h.at_.ah g b,h.ne,h.n0,h.n1,h.h1,h.cells,h.lt,h.nd,h.tu,h.nx,h.fi⟩
def kA.ring{L n:Nat}{xs:aI}{a:FC}(h:kA own f m L n xs a):oJ f a.q a.c n a.hd xs.length a.g:=
 ⟨h.aq.obj,h.ac.obj,h.n0,h.n1,h.h1,dg h.nd h.lt,h.ac.kv h.aq W⟩
section
variable {own:aG} {f:av} {m L n:Nat} {xs:aI} {a:FC}
def Ak(H:kA own f m L n xs a)(R:Rt)(b:Nat)(k):R.Y.call 122 [.ptr L 0] (.fn f b) k=k (.bool true) (.fn f b):=by have c:=H.aL.obj;refine cUx func122 ?_;exact zC
def a3E{R:Rt}(H:kA own f m L n xs a)(i:Nat)(F:i<n)(S:i∉xs)(s:a.nx<1099511627776):
  Cl R.Y.Y.Y 373 [.ptr L 0,Q i] f m (λv y p=>v=Q 0/\p=m/\(∃a',kA own y m L n (xs++ [i]) a'/\a'.nx=a.nx+1)/\Fr (· =5) own f m own y m):=by
 intro k T E;have P:xs.length<n:=by have:=dg (l:=i::xs) (iK.2 ⟨S,H.nd⟩) (λx h=>Y9);exact G
 have hP:=a2i H.ring i P;have M:=Ak H;have d:=H.aL.obj;have o:=H.at_.obj;have u:a.t≠a.q:=H.at_.kv H.aq W;have b:L≠a.q:=H.aL.kv H.aq W;have A:L≠a.c:=H.aL.kv H.ac W;have C:L≠a.t:=W;have r:a.t≠a.c:=λe=>H.ne e.symm;have n9:n<=9223372036854775807:=O8;have c1:¬((i:Int)<0):=Z;have c2:¬((n:Int)<=i):=Z;have c3:¬(0<=a.tu i):=λh=>S ((H.tu i F).1 h);have c4:i<n:=F;have N:IntKind.i64.wrap ((a.nx:Int)+1)=((a.nx+1:Nat):Int):=Qf;refine cUx func373 ?_;simp only[go_sem,M,d,o,hP,u,b,A,C,r,c1,c2,c3,c4,n9,N,tb];refine E _ _ _ ?_;refine⟨rfl,rfl,⟨⟨a.q,a.c,a.t,a.hd,a.nx+1,a.fi,cy a.g ((a.hd+xs.length)%n) (Q i),eH a.tu i a.nx⟩,?_,rfl⟩,?_⟩
 .refine ⟨⟨aK ..,H.aL.own,H.aL.lt⟩,⟨by simp only[aK,aE b.symm,aE u.symm,eZ];rfl,H.aq.own,H.aq.lt⟩,⟨by simp only[aK,aE A.symm,aE H.ne,aE H.ring.ne],H.ac.own,H.ac.lt⟩,⟨B6,H.at_.own,H.at_.lt⟩,H.ne,H.n0,H.n1,H.h1,?_,?_,?_,?_,G,by show a.nx+1=a.fi+(xs++ [i]).length;have:=H.fi;grind⟩
  .intro j z;rw[eZ] at z;show cy a.g ((a.hd+xs.length)%n) (Q i) ((a.hd+j)%n)=_;by_cases e:j=xs.length
   .subst e;rw[cd];simp
   .have z:j<xs.length:=by simp at z;omega
    rw[a04,H.cells j z,FT z];have:=H.h1;intro h3;have a1:(a.hd+j)%n=if a.hd+j<n then a.hd+j else a.hd+j-n:=Qs
    have a2:(a.hd+xs.length)%n=if a.hd+xs.length<n then a.hd+xs.length else a.hd+xs.length-n:=Qs
    grind
  .intro x S;rcases fJ.1 S with h|h;exact H.lt x h;grind
  .rw [jS];exact⟨H.nd,J1,W⟩
  .intro x w;show 0<=eH a.tu i a.nx x↔_;by_cases e:x=i
   .subst e;rw[dk];simp
   .rw [cJ e,H.tu x w];grind
 .exact ((((Fr.refl _ own f m).bw (x:=a.c) (λ_=>H.ac.own)).bw (x:=a.q) (λ_=>H.aq.own)).bw (x:=a.t) (λ_=>H.at_.own)).bw (x:=L) (λ_=>H.aL.own)
def Yn{R:Rt}{x:Nat}(H:kA own f m L n (x::xs) a):
  Cl R.Y.Y.Y.Y.Y 378 [.ptr L 0] f m (λv h P=>v= .cI [Q x,Q 0]/\P=m/\(∃a',kA own h m L n xs a'/\a'.nx=a.nx)/\Fr (· =5) own f m own h m):=by
 intro k T E;have S:a.g a.hd=Q x:=by have:=H.cells 0 J1;rwa [j8,qv H.h1] at this
 have s:=WG H.ring J1 x S;have M:=Ak H;have l:=H.aL.obj;have o:=H.at_.obj;have u:a.t≠a.q:=H.at_.kv H.aq W;have b:L≠a.q:=H.aL.kv H.aq W;have A:L≠a.c:=H.aL.kv H.ac W;have C:L≠a.t:=W;have r:a.t≠a.c:=λe=>H.ne e.symm;have z:a.c≠a.q:=H.ring.ne;have w:x<n:=H.lt x J1;have n9:n<=9223372036854775807:=O8;have c5:a.fi<=1099511627776:=by have:=H.fi;have:=H.nx;omega
 have N:IntKind.i64.wrap ((a.fi:Int)+1)=((a.fi+1:Nat):Int):=Qf;refine cUx func378 ?_;simp only[go_sem,M,l,o,s,u,b,C,w,N,tb,kg];refine E _ _ _ ?_;refine⟨rfl,rfl,⟨⟨a.q,a.c,a.t,(a.hd+1)%n,a.nx,a.fi+1,a.g,eH a.tu x (-1)⟩,?_,rfl⟩,?_⟩
 .have Cq:=iK.1 H.nd;have d:∀j,((a.hd+1)%n+j)%n=(a.hd+(j+1))%n:=λj=>by rw[Nat.mod_add_mod];grind
  refine⟨⟨aK ..,H.aL.own,H.aL.lt⟩,⟨by simp only[aK,aE b.symm,aE u.symm];rfl,H.aq.own,H.aq.lt⟩,⟨by simp only[aE A.symm,aE H.ne,aE z];exact H.ac.obj,H.ac.own,H.ac.lt⟩,⟨B6,H.at_.own,H.at_.lt⟩,H.ne,H.n0,H.n1,ke _ H.n0,?_,λy p=>H.lt y W,W,?_,H.nx,by have:=H.fi;grind⟩
  .intro j hj;show a.g (((a.hd+1)%n+j)%n)=_;rw[d,H.cells (j+1) W];rfl
  .intro i F;show 0<=eH a.tu x (-1) i↔_;by_cases e:i=x
   .subst e;rw[dk];grind
   .rw [cJ e,H.tu i F];grind
 .exact ((((Fr.refl _ own f m).bw (x:=a.q) (λ_=>H.aq.own)).bw (x:=a.q) (λ_=>H.aq.own)).bw (x:=a.t) (λ_=>H.at_.own)).bw (x:=L) (λ_=>H.aL.own)
def BR(H:kA own f m L n [] a)(R:Rt)(k):R.Y.Y.Y.Y.Y.call 378 [.ptr L 0] (.fn f m) k=k (.cI [Q 0,Q 20]) (.fn f m):=by have v:=Bq H.ring;have M:=Ak H;have b:=H.aL.obj;refine cUx func378 ?_;exact zC
def Yo{R:Rt}(H:kA own f m L n xs a):
  Cl R.Y.Y.Y.Y.Y.Y 69 [.ptr L 0] f m (λv y e=>B f m y e/\ll y e v (xs.map λ(x:Nat)=>(x:Int))/\Nw m v):=by
 intro k S E;have q:=Ak H;have p:=H.aL.obj;refine cUx func69 ?_;refine zS ?_;have t:=H.ring;rw[show xs.length=(xs.map λ(x:Nat)=>(x:Int)).length by simp] at t;refine(WH _ t H.aq.lt H.ac.lt (λi h=>by simp at h;rw[H.cells i h];simp)).go ?_;rintro v y e ⟨A,N,M⟩;rcases N with⟨rfl,b⟩|⟨i,o,c,l,j,w,z,g,rfl,d⟩
 .refine zS ?_;exact E _ _ _ ⟨A,.inl ⟨rfl,b⟩,M⟩
 .refine zS ?_;exact E _ _ _ ⟨A,.inr ⟨i,o,c,l,j,w,z,g,rfl,d⟩,M⟩
end
variable{S aEX aEY l:Nat}
structure Nm where
 aF1:Nat
 S:Nat
 L:Nat
 aEX:Nat
 aEV:Nat
 A:SL
 la:FC
 rc:dc
structure ji(own:aG)(f:av)(m C n sz aEY qt:Nat)(ph:aG)(ow ge:dc)(xs ws:aI)(tk:Int)(a:Nm):Prop where
 aC:At own 9 f m C (.row 195 6 0 true [.bg,.bg,.bg,.bg,.bg,.num 0] (.cf (bI [.ptr a.aF1 0,.ptr a.S 0,.ptr a.L 0,.ptr a.aEX 0,.ptr a.aEV 0,Q qt])))
 tr:ur own f m a.aF1 64
 st:i9 own f m a.S n sz aEY ph ow ge xs a.A
 ln:kA own f m a.L n ws a.la
 nx:a.la.nx<=aEY
 wa:sU own f m a.aEX aEY
 ct:gZ own 31 f m a.aEV 2 a.rc
 rc:∀j,0<=a.rc j/\a.rc j<=64*aEY
 tk:a.rc 0=tk
 ws:∀i,i∈ws↔i<n/\ph i=2
 no3:∀i,i<n->ph i≠3
 q1:1<=qt
 q2:qt<=1048576
@[grind] def PR(c:Nat):Prop:=PS c\/c=5\/c=28\/c=29\/c=31
def VN(g)(i a b:Nat):ib (ib g i a) i b=ib g i b:=by funext j;unfold ib;grind
def sU.ah{P:dF}{t:aG}{L r:Nat}(h:sU own f m r aEY)(q:Fr P own f m t y L)(g:¬P 28):sU t y L r aEY:=by obtain⟨n,c,d,x,a,b,N,h⟩:=h;exact⟨n,c,d,x,a,b,N.ah q g,h⟩
def sU.up{r:Nat}(h:sU own f m r aEY)(E:aEY<=l):sU own f m r l:=by obtain⟨n,c,d,x,a,b,e,A,N,M,u⟩:=h;exact⟨n,c,d,x,a,b,e,A,N,M,Z⟩
section
variable {own:aG} {f:av} {m C n sz aEY qt:Nat} {ph:aG} {ow ge:dc} {xs ws:aI} {tk:Int} {a:Nm}
def i9.up{A:SL}(h:i9 own f m S n sz aEY ph ow ge xs A)(E:aEY<=l):i9 own f m S n sz l ph ow ge xs A:=
 ⟨h.s,h.t,h.fr,h.ct,λj=>by have:=h.cs j;omega,h.nd,h.mem,h.ow1,h.ow0,λi F=>by have:=h.ge i F;omega,h.cell,h.z1,h.z2⟩
def ji.ah{P:dF}{t:aG}{L:Nat}(h:ji own f m C n sz aEY qt ph ow ge xs ws tk a)(q:Fr P own f m t y L)(g:∀c,PR c->¬P c)(d:¬P 9)(b:¬P 22):ji t y L C n sz aEY qt ph ow ge xs ws tk a:=
 ⟨h.aC.ah q d,h.tr.ah q (g _ W),h.st.ah q (λc F=>g c (.inl F)) d b,h.ln.ah q (g _ W),h.nx,h.wa.ah q (g _ W),h.ct.ah q (g _ W),h.rc,h.tk,h.ws,h.no3,h.q1,h.q2⟩
def Br(H:ji own f m C n sz aEY qt ph ow ge xs ws tk a)(R:Rt)(L:Nat)(k):R.Y.call 65 [.ptr C 0] (.fn f L) k=k (.bool true) (.fn f L):=by have E:=H.aC.obj;refine cUx func65 ?_;exact zC
def a7l{R:Rt}(H:ji own f m C n sz aEY qt ph ow ge xs ws tk a)(i:Nat)(d:i<n)(N:ph i=1)(hK:aEY<1048575):
  Cl R.Y.Y.Y.Y.Y.Y.Y.Y.Y 315 [.ptr C 0,Q i,Q (ow i)] f m (λv y L=>v=Q 0/\∃t a',ji t y L C n sz (aEY+1) qt (ib ph i 2) (eH ow i 0) ge xs (ws++ [i]) tk a'/\Fr PR own f m t y L):=by
 intro k S hk;have E:=H.aC.obj;have F:=Br H;refine cUx func315 ?_;simp only[go_sem,F,E, ↓ag 372];apply(a1P i H.st d N hK).bu;rintro v r l ⟨rfl,bX,g,s,P⟩;have u:¬PS 5:=W;have w:¬PS 9:=W;have b:¬PS 28:=W;have n29:¬PS 29:=W;have n31:¬PS 31:=W;have C1:=H.aC.ah P w;have M:=C1.obj;have x:i∉ws:=λh=>by have:=(H.ws i).1 h;omega
 have q:=H.nx;simp only[go_sem,M, ↓ag 373];apply(a3E (H.ln.ah P u) i d x Z).bu;rintro v f2 m2 ⟨rfl,rfl,⟨la,hl,p⟩,o⟩;refine zS ?_;refine hk _ _ _ ⟨rfl,bX,{a with A:=g,la:=la},⟨C1.ah o I,(H.tr.ah P n29).ah o I,s.ah o W I I,hl,W,((H.wa.ah P b).ah o I).up Z,(H.ct.ah P n31).ah o I,λj=>Xh,H.tk,λj=>?_,λj z=>?_,H.q1,H.q2⟩,P.trans o (λc h=>.inl h) (λc h=>.inr (.inl h))⟩
 .rw [fJ,H.ws j];by_cases e:j=i
  .subst e;rw[dP];grind
  .rw [eU e];grind
 .by_cases e:j=i
  .subst e;rw[dP];decide
  .rw [eU e];exact H.no3 j z
def a2m{R:Rt}{A:SL}{aF1 L aEV:Nat}(N:At own 9 f m C (.row 195 6 0 true [.bg,.bg,.bg,.bg,.bg,.num 0] (.cf (bI [.ptr aF1 0,.ptr S 0,.ptr L 0,.ptr aEX 0,.ptr aEV 0,Q qt]))))(H:i9 own f m S n sz aEY ph ow ge xs A)(i:Nat)(d:i<n)(hph:ph i=2)(hK:aEY<1048574)(z:ge i<1048575):
  Cl R.Y.Y.Y.Y.Y.Y.Y.Y.Y 379 [.ptr C 0,Q i] f m (λv y m'=>v=Q 0/\∃t c,i9 t y m' S n sz (aEY+2) (ib ph i 0) ow (eH ge i (ge i+1)) (xs++ [i]) c/\Fr PS own f m t y m'):=by
 intro k T hk;have hC:=N.obj;refine cUx func379 ?_;simp only[go_sem,hC, ↓ag 424];apply(a1Q i H d hph Z).bu;rintro v f1 l ⟨rfl,bX,A1,st1,hwl,P⟩;have w:¬PS 9:=W;have C1:=N.ah P w;have z2:=H.z2;refine zS ?_;refine cU (x:=.ret) (n:=sz) (aF0:=λr e y m'=>∃(t:aG) (c:SL),(eg 0).get e= .ptr C 0/\(eg 1).get e=Q i/\i9 t y m' S n sz (aEY+1) (ib ph i 3) ow ge xs c/\VD t y m' sz c.a.gc i r/\Fr PS own f m t y m')
  (E:=λe y m'=>∃t c,(eg 4).get e=Q 0/\i9 t y m' S n sz (aEY+2) (ib ph i 0) ow (eH ge i (ge i+1)) (xs++ [i]) c/\Fr PS own f m t y m') ?_ J2 ?_ ?_
 .exact ⟨bX,A1,E6,E6,st1,hwl,P⟩
 .rintro r e f2 m2 ⟨dm,F,e0,u,st2,hw2,o⟩ rr j hr hE;unfold iB;have hC2:=(N.ah o w).obj;simp only[go_sem,e0,u,hC2, ↓ag 425];apply(a76 i st2 d (dP ..) Z z 64 I r hw2).bu;rintro v f3 m3 ⟨b,rfl,g,A3,s,M,p⟩;cases b with
  |true=>rw[ao rfl,VN] at M;refine zS ?_;exact hE _ _ _ ⟨g,A3,E6,M,o.trans p (λ_ h=>h) (λ_ h=>h)⟩
  |false=>rw[aj I] at M;obtain⟨mO,hw3⟩:=s rfl;refine zS ?_;exact hr (r-64) _ _ _ Z ⟨g,A3,E6,E6,M,hw3,o.trans p (λ_ h=>h) (λ_ h=>h)⟩
 .rintro e y m' ⟨t,c,e4,h,q⟩;refine zS ?_;grind
end
end
end Go.Ev.Sy
