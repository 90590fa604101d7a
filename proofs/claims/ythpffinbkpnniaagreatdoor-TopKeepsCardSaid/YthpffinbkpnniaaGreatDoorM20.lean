import Derived.Test.YthpffinbkpnniaaGreatDoorM19
set_option linter.all false
set_option maxRecDepth 100000
namespace Go.Ev.Sy
open Go Go.Ev Go.Proofs
open Tryz
noncomputable section
variable{c j:Nat}
section
variable {own:aG} {f:av} {m aF1:Nat} {ts:List Tk} {a:uv}
def ft.at(H:ft own f m aF1 ts a)(z:j<ts.length):TkR ts[j]:=H.ok _ W
def Sz{R:Rt}(H:ft own f m aF1 ts a)(j:Nat)(z:j<ts.length):
  Cl R.Y.Y.Y.Y.Y.Y.Y 334 [.ptr aF1 0,Q (j+1:Nat)] f m (λv y L=>if ts[j].s=1 then v=Q 0/\(∃a',ft own y L aF1 (ts.set j {ts[j] with s:=2}) a')/\Fr PB own f m own y L else v=Q 13/\B f m y L):=by
 intro k S E;refine cUx func334 ?_;simp only[go_sem, ↓ag 291];apply(It H j z {ts[j] with s:=2} (H.id j z) G4 (H.ps ts[j] W) 392 G (λR f m=>a1z _ (H.at z) R f m)).bu;rintro v r l b;by_cases c:ts[j].s=1
 .simp only[ao c] at E b;obtain⟨rfl,N⟩:=b;simp only[go_sem];grind
 .simp only[aj c] at E b;obtain⟨rfl,N⟩:=b;simp only[go_sem];grind
def MS{R:Rt}(H:ft own f m aF1 ts a)(j:Nat)(z:j<ts.length):
  Cl R.Y.Y.Y.Y.Y.Y.Y 215 [.ptr aF1 0,Q (j+1:Nat)] f m (λv y L=>if ts[j].s=1 then v=Q 0/\(∃a',ft own y L aF1 (ts.set j {ts[j] with s:=3}) a')/\Fr PB own f m own y L else v=Q 13/\B f m y L):=by
 intro k S E;refine cUx func215 ?_;simp only[go_sem, ↓ag 291];apply(It H j z {ts[j] with s:=3} (H.id j z) G4 (H.ps ts[j] W) 292 G (λR f m=>VU _ (H.at z) R f m)).bu;rintro v r l b;by_cases c:ts[j].s=1
 .simp only[ao c] at E b;obtain⟨rfl,N⟩:=b;simp only[go_sem];grind
 .simp only[aj c] at E b;obtain⟨rfl,N⟩:=b;simp only[go_sem];grind
def a0i{R:Rt}(H:ft own f m aF1 ts a)(j:Nat)(z:j<ts.length)(g:ts[j].p<1073741824):
  Cl R.Y.Y.Y.Y.Y.Y.Y 245 [.ptr aF1 0,Q (j+1:Nat)] f m (λv y L=>if ts[j].s=1 then v=Q 0/\(∃a',ft own y L aF1 (ts.set j {ts[j] with p:=ts[j].p+1}) a')/\Fr PB own f m own y L else v=Q 13/\B f m y L):=by
 intro k S E;refine cUx func245 ?_;simp only[go_sem, ↓ag 291];apply(It H j z {ts[j] with p:=ts[j].p+1} (H.id j z) (H.at z) G 331 G (λR f m=>a6P _ (H.at z) Z R f m)).bu;rintro v r l b;by_cases c:ts[j].s=1
 .simp only[ao c] at E b;obtain⟨rfl,N⟩:=b;refine zS ?_;grind
 .simp only[aj c] at E b;obtain⟨rfl,N⟩:=b;simp only[go_sem];grind
def a7r{ts:List Tk}(t:Tk)(x:Int):Nv (ts++ [t]) x=if((ts.length+1:Nat):Int)=x then decide (t.s=1) else Nv ts x:=by
 by_cases e:((ts.length+1:Nat):Int)=x
 .rw [ao e,←e,GI J1];simp
 .rw [aj e];unfold Nv;grind
def Sx{R:Rt}(H:ft own f m aF1 ts a)(c n:Nat)(hc:c<=63)(hn:1<=n)(b:n<=1048576)(hl:ts.length<200):
  Cl R.Y.Y.Y.Y 211 [.ptr aF1 0,Q c,Q n] f m (λv y L=>v= .cI [Q (ts.length+1:Nat),Q 0]/\∃bo,(∃a',ft bo y L aF1 (ts++ [⟨ts.length+1,c,n,1,0⟩]) a')/\Fr PB own f m bo y L):=by
 intro k S E;have hB:=H.aB.obj;have hi:=CV aF1 a.bv a.mp;have n9:ts.length<=9223372036854775807:=Z;have N:IntKind.i64.wrap ((ts.length:Int)+1)=((ts.length+1:Nat):Int):=Qf;have hlen:=H.bv.jD n9;have hlv:=H.bv.bt;have HC:=H.bv.live;refine cUx func211 ?_;simp only[go_sem,hi,hB,hlen,hlv,N, ↓ag 287];apply(abe (ts.length+1) c n Z hc hn b _ f m).bu;rintro v r m1 ⟨rfl,P⟩;have A:=H.gr P;have hB1:=A.aB.obj;have Ur:=A.am.obj;have EW:=H.agS;have el:(enc a.l).length=a.l.length:=Jk;have q:(enc a.l).length<=9223372036854775807:=Z;have c1:¬((256:Int)<=((enc a.l).length:Nat)):=Z;have c2:¬((1048576:Int)<((ts.length+1:Nat):Int)):=Z;have u:aF1≠m1:=Jt;have e2:a.mp≠m1:=by have:=A.am.lt;omega
 have e3:aF1≠pl m1 1:=by have:=A.aB.lt;unfold pl;omega
 simp only[go_sem,hB1,Ur,q,c1,c2,u,e2,e3,hlv,H.bv.tR];refine gE ?_;intro F hF;have o:B f m F (pl m1 2):=by rw[hF];exact(B.w (m2:=m1) Qn J0)
 refine dv (H.gr o).bv (n':=1) rfl (a1y ⟨ts.length+1,c,n,1,0⟩) Z Z ?_;intro z M d C xj p;have i:Fr PB own f m M d C:=(o.fr own PB).trans p (λ_ h=>h) (λ_ h=>.inr h);have hB2:=(((H.gr o).aB.ah p I)).obj;have hm2:=(((H.gr o).am.ah p I)).obj;have e4:aF1≠a.mp:=W;have aB:=(H.gr o).aB.ah p I;have g:=(H.gr o).am.ah p I;simp only[go_sem,xj.one,hB2,hm2,e4.symm];refine fG ?_;intro s tW;have q6:Fr (· =35) M d C M s C:=by rw[tW];exact(Fr.w (m2:=C) (by repeat (first|exact(Fr.refl (· =35) M d C)|refine Fr.bw ?_ (by first|exact λh=>absurd h (by first|exact uz _|(unfold pl at *;omega)|(have:=Z;unfold pl at *;omega))|exact λ_=>aB.own|exact λ_=>.inl aB.own|exact λ_=>.inr aB.own|exact λ_=>g.own|exact λ_=>.inl g.own|exact λ_=>.inr g.own))) Z)
 refine E _ _ _ ⟨rfl,M,⟨⟨z,a.mp,eJ a.l (ts.length+1:Nat) (.agg []) a.ck,im a.l (ts.length+1:Nat) a.ck⟩,⟨⟨by rw[tW,aE e4,aK],aB.own,aB.lt⟩,?_,⟨G2,g.own,g.lt⟩,H.wf.set _ _,λx=>?_,λj hj=>?_,λt ht=>?_,λt ht=>?_,W⟩⟩,i.trans q6 (λ_ h=>h) (λ_ h=>.inl h)⟩
 .have h:=xj.ah q6 I;have e:gz (ts++ [⟨ts.length+1,c,n,1,0⟩])=gz ts++ [Q (ts.length+1:Nat),Q c,Q n,Q 1,Q 0]:=by unfold gz;rw[mK];rfl
  grind
 .rw [dR,H.mo,a7r];grind
 .rw [List.getElem_append];split
  .exact H.id j _
  grind
 .rcases fJ.1 ht with h|h
  .exact H.ok t h
  .simp at h;subst h;exact⟨by show 0<ts.length+1;omega,hc,hn,b,(by show 1<=1;decide),(by show 1<=3;decide)⟩
 .rcases fJ.1 ht with h|h
  .exact H.ps t h
  grind
def gJ(ts:List Tk):List Tk:=ts.filter λt=>t.s=1
def a2I{l:List (Int×V×Nat)}{ts:List Tk}(w:Wf l c)(h0:∀p∈l,0<=p.1)(hid:∀j (h:j<ts.length),ts[j].i=j+1)(n:∀x:Int,cC l x=if Nv ts x=true then some (.agg []) else none):oc l=(gJ ts).map Tk.i:=by
 refine zX (qL w h0) ?_ λx=>?_
 .have A:(ts.map Tk.i).Pairwise (· < ·):=by
   rw[Oh];intro i j F z a;simp only[rW];rw[hid i W,hid j W];omega
  exact A.sublist (NL _ NR)
 .rw [xX h0,n,fA];constructor
  .intro h;have hp:Nv ts x=true:=by
    by_cases hp:Nv ts x=true
    .trivial
    .grind
   obtain⟨j,z,e,M⟩:=Ko hp;exact⟨ts[j],AE.2 ⟨eL z,Xn⟩,W⟩
  .rintro ⟨t,o,e⟩;obtain⟨A,N⟩:=AE.1 o;obtain⟨j,z,rfl⟩:=jm A;rw[hid j z] at e;have:Nv ts (x:Int)=true:=by rw[←e,GI z];exact N
   grind
def a7u{ts:List Tk}(hid:∀j (h:j<ts.length),ts[j].i=j+1){t:Tk}(o:t∈gJ ts):∃j,∃h:j<ts.length,t=ts[j]/\t.i=j+1:=by obtain⟨A,_⟩:=AE.1 o;obtain⟨j,z,rfl⟩:=jm A;grind
end
variable{m:Nat}{own:aG}{f y:av}
section
variable {own:aG} {f:av} {m aF1:Nat} {ts:List Tk} {a:uv}
def ll.fr{P:dF}{t:aG}{L:Nat}{v:V}{xs:dC}(h:ll f m v xs)(q:Fr P own f m t y L)(s:∀b mm fz w z g,f b= .row 3 mm fz w z (.cf g)->¬P (own b)):ll y L v xs:=by
 rcases h with h|⟨i,o,c,mm,fz,w,z,F,A,N,M,u,r⟩
 .exact .inl h
 .exact .inr ⟨i,o,c,mm,fz,w,z,F,A,bW N q.le,Vj,u,r⟩
def BA(ts:List Tk):(gJ ts).length<=ts.length:=a1b _ _
def x8{R:Rt}(H:ft own f m aF1 ts a):
  Cl R.Y.Y 44 [.ptr aF1 0] f m (λv y L=>B f m y L/\i7 y L 49 5 v (gJ ts).length (gz (gJ ts))/\Nw m v):=by
 intro k T hk;have hB:=H.aB.obj;have hm:=H.am.obj;have hi:=CV aF1 a.bv a.mp;have EW:=H.agS;have ln:=H.ln;have ePl:=BA ts;have el:(enc a.l).length=a.l.length:=Jk;have c0:(enc a.l).length<=9223372036854775807:=Z;have c1:(enc a.l).length<=4294967296:=Z;have c2:40*(enc a.l).length<=281474976710656:=Z;have hB2:aF1≠m:=I9;have hm2:a.mp≠m:=R0;have hm3:a.mp≠pl m 1:=Jp;refine cUx func44 ?_;simp only[go_sem,hi,hB,hm,c0,c1,c2,hB2];refine cUx func73 ?_;simp only[go_sem];have apJ:=a2I H.wf (λp hp=>Zi) H.id H.mo;refine xy (i:=a.mp) (l:=a.l) (c:=a.ck) T9 E6 (by simp only[go_sem,hm2,hm3];trivial) H.wf (λp hp=>Zi) Z rfl I ?_;intro v f1 m1 q1 hI;rw[apJ] at hI;have hb0:=q1.ah m W;have q0:B f m f1 m1:=B.trans (B.w (m2:=m) Qd E1) q1;simp only[go_sem] at hb0;have hlI:=hI.jD W;simp only[go_sem,hlI];rw[dT,dT];generalize hP:gJ ts=P at *;have Ur:m<m1:=U5;have O:Fr (· =1) (λ_=>0) f m (cm (λ_=>0) m [1]) f1 m1:=by refine⟨q0.le,λx hx=>aj (λh=>Z),λx hx _=>q0.ah x hx,λh0 x hx=>aj (λh=>by simp at h;omega)⟩
 have S0:bS (cm (λ_=>0) m [1]) 1 f1 m1 49 5 (.sl m 0 0 (.known (enc a.l).length)) 0 []:=by refine .inr ⟨m,0,_,_,true,_,_,rfl,⟨hb0,?_,Ur⟩,rfl,Z,Z,λj _=>a0Y J1 J1 j,⟨kU _,J1⟩⟩;unfold cm;rw[ao J1];simp
 refine cU (x:=.exit 0) (n:=P.length) (aF0:=λr e y L=>∃(i:Nat) (t:aG) (N:V),i+r=P.length/\(eg 0).get e= .ptr aF1 0/\(eg 20).get e=v/\(eg 21).get e=Q P.length/\(eg 22).get e=Q i/\(eg 3).get e=N/\
   Fr (· =1) (cm (λ_=>0) m [1]) f1 m1 t y L/\bS t 1 y L 49 5 N i (gz (P.take i)))
  (E:=λe y L=>∃N,(eg 3).get e=N/\B f m y L/\i7 y L 49 5 N P.length (gz P)/\Nw m N) ?_ J2 ?_ ?_
 .exact ⟨0,_,_,Z,E6,E6,E6,E6,E6,Fr.refl _ _ _ _,S0⟩
 .rintro r e y L ⟨i,t,N,Uu,e0,e20,e21,e22,A,g2,M⟩ rr kx hr hE;have g3:B f m y L:=(O.trans g2 Z Z).gr;have hI2:ll y L v _:=hI.fr g2 (λb mm fz w z g hb=>by
   have:b≠m:=λe=>W;unfold cm;grind)
  unfold iB;by_cases mO:i<P.length
  .obtain ⟨b,o,cp,mm,fz,w,z,g,rfl,Uz,hf,nz,hg⟩:=hI2.at (i:=i) W;have d:P[i]∈gJ ts:=by rw[hP];exact W
   obtain⟨j,hj,u,hij⟩:=a7u H.id d;have hg:g (o+i)=Q ((j+1:Nat):Int):=by rw[hg];simp[hij]
   have hB4:=(H.gr g3).aB.obj;obtain⟨b2,o2,cp2,mm2,fz2,w2,zs2,gg,ee,azU,hf2,LJ,hgg⟩:=(H.gr g3).bv.uf.at hj;have hfl:=λq hq=>(hgg q hq).trans (flat_get Tk.Ih ts hj hq);have g0:gg (o2+j*5)=Q (ts[j].i:Nat):=hfl 0 I;have g1:gg (o2+j*5+1)=Q (ts[j].c:Nat):=hfl 1 I;have g2':gg (o2+j*5+2)=Q (ts[j].n:Nat):=hfl 2 I;have g3':gg (o2+j*5+3)=Q (ts[j].s:Nat):=hfl 3 I;have g4':gg (o2+j*5+4)=Q (ts[j].p:Nat):=hfl 4 I;rw[ee] at hB4;have c3:(i:Int)<P.length:=Z;have ew:IntKind.i64.wrap (((j+1:Nat):Int)-1)=(j:Nat):=Ql;have ew2:IntKind.i64.wrap ((i:Int)+1)=((i+1:Nat):Int):=Qf;have ayU:o2+j*5<mm2:=Z;have ajt:=e20;rw[dT,dT] at ajt;simp only[go_sem,e0,ajt,e21,e22,A,c3,mO,hf,nz,hg,hB4,ew,hj,hf2,LJ,g0,g1,g2',g3',g4',M.live];refine gE ?_;intro F hF;have q2:B y L F (pl L 1):=by rw[hF];exact(B.w (m2:=L) Qc E1)
   refine dv (M.ah (q2.fr t (λ_=>False)) id) (n':=1) rfl (a1y ts[j]) Z Z ?_;intro v2 dm f2 C xj q3;simp only[go_sem,xj.live,ew2];refine hr (r-1) _ _ _ Z ⟨i+1,dm,v2,Z,E6,E6,E6,E6,E6,(g2.trans (q2.fr t (· =1)) (λ_ h=>h) (λ_ h=>h)).trans q3 (λ_ h=>h) Z,?_⟩;unfold gz at xj ⊢;rw[ZC _ _ _ mO,u];trivial
  .have c3:¬((i:Int)<P.length):=by omega
   obtain rfl:i=P.length:=Z;refine zS ?_;refine hE _ _ _ ⟨N,A,g3,?_,M.nw (λx hx=>by rw[(O.trans g2 (S:=λ_=>True) (λ_ _=>trivial) (λ_ _=>trivial)).same x hx];decide)⟩;rw[mJ] at M;exact M.uf
 .rintro e y L ⟨N,A,g,h,hw⟩;simp only[go_sem,A,bN h.bC];grind
end
def a5x(own)(R:Rt):
  Cl R.Y 62 [] f m (λv y L=>∃aF1 b a,v= .ptr aF1 0/\ft b y L aF1 [] a/\Fr (λ_=>False) own f m b y L):=by
 intro k S E;refine cUx func62 ?_;refine zS ?_;refine fG ?_;intro F j;have p:Fr (λ_=>False) own f m (cm own m [35,35]) F (pl m 2):=by refine Fr.cm (P:=λ_=>False) ?_ G;rw[j];exact B.fr (B.w (m2:=m) Qd E1) _ _
 exact E _ _ _ ⟨pl m 1,_,⟨.au,m,[],0⟩,rfl,⟨gh J3 rfl G,bS.nil,ez Y0 rfl G,Wf.nil _,λx=>by unfold Nv;simp;rfl,G,λt o=>G,G,J1⟩,p⟩
variable{m1 p:Nat}{bX:aG}
section
variable {own:aG} {f:av} {m aEU cV:Nat} {gen:aG} {op:bs} {P:Int->Int} {cl:aG} {pg:Nat->dC} {a:tX}
def JB{R:Rt}(H:fX own f m aEU gen op cV P cl pg a){r:av}{fa:Nq}(q:Fr PF own f m bX r m1)(fo:fI bX r m1 a.T 4096 gen (fB op p true) (cV+1) (up P p j) fa)
  (g:p<4096) (ho:op p=false) (z:j=4096\/j<4096/\op j=true/\cl j=c) (hc:c<64) (hg:gen p<=1048575):
  Cl R.Y.Y.Y 218 [.ptr aEU 0,Q c,Q p,Q (gen p),.bool true] r m1 (λv y L=>v= .cI [Q (kN 2 p (gen p) 0),Q 0]/\(∃a',fX bX y L aEU gen (fB op p true) (cV+1) (up P p j) (dE cl p c) (dE pg p []) a')/\Fr (· =54) bX r m1 bX y L):=by
 intro k aEY E;have b:¬PF 54:=L7;have n55:¬PF 55:=L7;have i:=H.aZ.ah q b;have t:=H.am.ah q b;have hZ:=i.obj;have hM:=t.obj;have u:aEU≠a.M:=W;refine cUx func218 ?_;simp only[go_sem,hZ,hM, ↓ag 205];refine aP ?_;intro F hF;have o:Fr (· =54) bX r m1 bX F m1:=by rw[hF];exact(Fr.w (m2:=m1) (by repeat (first|exact Fr.refl _ _ _ _|refine Fr.bw ?_ (by first|exact λh=>absurd h J7|exact λ_=>t.own|exact λ_=>.inl t.own|exact λ_=>.inr t.own))) Z)
 have Z2:At bX 54 F m1 aEU (.row 189 2 0 true [.bg,.fR] (.cf (bI [.ptr a.T 0,.map a.M]))):=⟨Zk,i.own,i.lt⟩;have S:At bX 54 F m1 a.M (.map (enc (eJ a.l p (.agg [Q c,.au,Q 0]) a.ck)) (im a.l p a.ck)):=⟨O2,t.own,t.lt⟩;have eX:Cl R.Y.Y 205 [Q 2,Q p,Q (gen p),Q 0] F m1 (λv y L=>v= .cI [Q (kN 2 p (gen p) 0),Q 0]/\B F m1 y L):=oC 2 p (gen p) 0 I Z hg I R F m1;refine eX.bu ?_;rintro v d C ⟨rfl,q3⟩;refine zS ?_;have x:=q3.fr bX (λ_=>False);have WK:Fr (· =54) bX r m1 bX d C:=o.trans x Z (λ_ h=>h.elim);have xl:∀k,op k=true->k≠p:=λk h e=>W;have hP:¬0<=P p:=λh=>by have:=(H.fo.lo p g).1 h;grind
 refine E _ _ _ ⟨rfl,⟨{a with l:=eJ a.l p (.agg [Q c,.au,Q 0]) a.ck,ck:=im a.l p a.ck,fa:=fa,pv:=dE a.pv p .au,cu:=dE a.cu p 0},⟨Z2.ah x id,S.ah x id,H.wf.set _ _,fo.ah WK W,λk E=>?_,λk E=>?_,λk E=>?_,λk E=>?_,λk E Us=>?_⟩⟩,WK⟩
 .show cC (eJ a.l p _ a.ck) k=some (.agg [Q ((dE cl p c k:Nat):Int),dE a.pv p .au k,Q (dE a.cu p 0 k)]);rw[dR];by_cases e:p=k
  .subst e;rw[ao rfl,cj,cj,cj]
  .rw [aj Z,dd Z,dd Z,dd Z];rw[dn Z] at E;exact H.mo k E
 .show bS bX 55 d C _ 1 (dE a.pv p .au k) _ _;by_cases e:k=p
  .subst e;rw[cj,cj];exact bS.nil
  .rw [dd e,dd e];rw[dn e] at E;exact((H.pv k E).ah q n55).ah WK I
 .by_cases e:k=p
  .subst e;rw[cj];trivial
  .rw [dd e];rw[dn e] at E;exact H.c64 k E
 .by_cases e:k=p
  .subst e;rw[cj];trivial
  .rw [dd e];rw[dn e] at E;exact H.pl k E
 .obtain ⟨k0,k1,s⟩:=E;obtain⟨n,rfl⟩:∃n:Nat,k=n:=⟨k.toNat,Z⟩;rw[pH] at s Us ⊢;by_cases e:(n:Int)=p
  .rw [ao e] at Us ⊢;have e2:n=p:=Z;rw[iI,iI,e2,cj];rcases z with h|⟨A,N,h3⟩
   .omega
   .rw [dd W];omega
  .rw [aj e] at s Us ⊢;have hk3:Nd (4096:Nat) P n:=⟨k0,k1,s⟩;have A:=(H.fo.fo.par n k0 k1 s Us).1;have N:(P n).toNat≠p:=λh=>W;rw[dd N,dd Z];exact H.up n hk3 Us
def a1w{R:Rt}(H:fX own f m aEU gen op cV P cl pg a)(M:cV<4096)(q:∀p,gen p<=1048575)(c:Nat)(hc:c<64):
  Cl R.Y.Y.Y.Y.Y 138 [.ptr aEU 0,Q c] f m (λv y b=>∃p t,v= .cI [Q (kN 2 p (gen p) 0),Q 0]/\p<4096/\op p=false/\(∃a',fX t y b aEU gen (fB op p true) (cV+1) (up P p 4096) (dE cl p c) (dE pg p []) a')/\Fr PZ own f m t y b):=by
 intro k n E;have F:=OB H;have S:=H.aZ.obj;have c1:¬(c:Int)<0:=Z;have c2:¬(64:Int)<=c:=Z;refine cUx func138 ?_;simp only[go_sem,F,S,c1,c2, ↓ag 217];apply(a4E H.fo M).bu;rintro v r l ⟨p,rfl,g,L,⟨i,s⟩,e⟩;simp only[go_sem, ↓ag 218];apply(JB (j:=4096) H e s g L Z hc W).bu;rintro v d C ⟨rfl,N,o⟩;refine zS ?_;exact E _ _ _ ⟨p,own,rfl,g,L,N,e.trans o (λ_ h=>.inl h) (λ_ h=>.inr h)⟩
def VQ{R:Rt}(H:fX own f m aEU gen op cV P cl pg a)(M:cV<4096)(hg:∀p,gen p<=1048575)(r:Int)(d:r<=9223372036854775807)(g:pM gen op r):
  Cl R.Y.Y.Y.Y.Y 140 [.ptr aEU 0,Q r] f m (λv y m'=>∃p t,v= .cI [Q (kN 2 p (gen p) 0),Q 0]/\p<4096/\op p=false/\(∃a',fX t y m' aEU gen (fB op p true) (cV+1) (up P p (hP r)) (dE cl p (cl (hP r))) (dE pg p []) a')/\Fr PZ own f m t y m'):=by
 intro k aEY E;refine cUx func140 ?_;simp only[go_sem, ↓ag 221];apply(pI H r d).bu;rintro v f0 q ⟨F,x⟩;rw[ao g] at F;subst F;have S:=H.gr x;have hZ:=S.aZ.obj;have L:=g.2.2.2.1;simp only[go_sem,hZ, ↓ag 222];apply(ZB S.fo M (hP r) (H.lt L) L).bu;rintro v f1 l ⟨p,rfl,A,e,⟨i,s⟩,w⟩;have b:¬PF 54:=L7;have u:=(S.aZ.ah w b).obj;have z:=(S.am.ah w b).obj;have n:=H.mo _ L;simp only[go_sem,u,z,n, ↓ag 218];apply(JB (j:=hP r) (c:=cl (hP r)) S w s A e (.inr ⟨H.lt L,L,rfl⟩) (H.c64 _ L) W).bu;rintro v f2 C ⟨rfl,N,o⟩;refine zS ?_;exact E _ _ _ ⟨p,own,rfl,A,e,N,((x.fr own PZ).trans w (λ_ h=>h) (λ_ h=>.inl h)).trans o (λ_ h=>h) (λ_ h=>.inr h)⟩
end
section
variable {own:aG} {f:av} {m aEU cV:Nat} {gen:aG} {op:bs} {P:Int->Int} {cl:aG} {pg:Nat->dC} {a:tX}
def WO(a:tX)(pg:Nat->dC)(l:aI):List (V×Int×dC):=l.map λk=>(a.pv k,a.cu k,pg k)
def a9V(a:tX)(pg:Nat->dC)(l):pgX (WO a pg l)=l.flatMap pg:=by unfold pgX WO;induction l with
 |nil=>rfl
 |cons k l H=>grind
def agX(a:tX)(pg:Nat->dC)(l:aI)(i:Nat)(h:i<l.length):pgC (WO a pg (l.take (i+1)))=pgC (WO a pg (l.take i))++ [a.pv l[i],Q (a.cu l[i])]:=by unfold pgC WO;rw[jr h,iH,mK];rfl
def VP{R:Rt}(H:fX own f m aEU gen op cV P cl pg a)(r:Int)(hr:r<=9223372036854775807)(hh:pM gen op r)(pre:aI)(Up:∀z∈pre,op z=true)(EW:pre.length<=4096)(hnx:∀i,((pre.take i).flatMap pg).length<=100000)
  (Hz:∀(own:aG) (f:av) (m:Nat) (R:Rt),fI own f m a.T 4096 gen op cV P a.fa->Cl R.Y.Y.Y.Y.Y.Y.Y 310 [.ptr a.T 0,Q (hP r)] f m (λv y L=>B f m y L/\Fs y m L 3 1 v pre.length (pre.map λ(x:Nat)=>Q x))):
  Cl R.Y.Y.Y.Y.Y.Y.Y.Y 229 [.ptr aEU 0,Q r] f m (λv y L=>∃u,v= .cI [u,Q 0]/\Fs y m L 3 1 u (pre.flatMap pg).length ((pre.flatMap pg).map λ(x:Int)=>Q x)/\B f m y L):=by
 intro k aEY hk;refine cUx func229 ?_;simp only[go_sem, ↓ag 221];refine(pI H r hr).bu ?_;rintro v f1 m1 ⟨hv,q1⟩;rw[ao hh] at hv;subst hv;have A:=H.gr q1;have S:=A.aZ.obj;simp only[go_sem,S, ↓ag 310];refine(Hz own f1 m1 _ A.fo).bu ?_;rintro v d C ⟨q2,hI⟩;replace hI:=hI.toI;have tI:=λq=>hI.jD W q;rw[dT] at tI;refine zS ?_;refine cU (x:=.exit 0) (n:=pre.length) (aF0:=λr e y L=>∃(i:Nat) (t:aG) (N:V),i+r=pre.length/\(eg 0).get e= .ptr aEU 0/\(eg 25).get e=v/\(eg 26).get e=Q pre.length/\(eg 27).get e=Q i/\(eg 8).get e=N/\Fr (· =7) (λ_=>0) d C t y L/\bS t 7 y L 412 2 N i (pgC (WO a pg (pre.take i))))
  (E:=λe y L=>∃(t:aG) (N:V),(eg 8).get e=N/\Fr (· =7) (λ_=>0) d C t y L/\bS t 7 y L 412 2 N pre.length (pgC (WO a pg pre))) ?_ J2 ?_ ?_
 .exact ⟨0,λ_=>0,.au,Z,E6,E6,E6,E6,E6,Fr.refl _ _ _ _,bS.nil⟩
 .rintro r e f3 s ⟨i,g9,v3,hr,c,e25,e26,e27,l,g3,M⟩ rr kx lR hE;unfold iB;have q3:B d C f3 s:=g3.xD Z;by_cases hi:i<pre.length
  .have c1:(i:Int)<pre.length:=by omega
   obtain⟨b,o,cp,mm,fz,w,z,g,ee,Uz,hf,nz,hg⟩:=(hI.gr q3).at (i:=i) W;rw[dT] at ee;subst ee;have hg:g (o+i)=Q (pre[i]:Nat):=by simpa using hg
   have H3:=A.gr (q2.trans q3);have hZ3:=H3.aZ.obj;have LP:=H3.am.obj;have ho:=Up _ (eL hi);have hmo:=H.mo _ ho;have hp:=H3.pv _ ho;have ew:IntKind.i64.wrap ((i:Int)+1)=((i+1:Nat):Int):=Qf;simp only[go_sem,c,e25,e26,e27,l,c1,hi,hf,nz,hg,hZ3,LP,hmo,M.live,hp.bt];refine gE ?_;intro F j;have q4:B f3 s F (pl s 1):=by rw[j];exact(B.w (m2:=s) Qc E1)
   refine dv (M.ah (q4.fr g9 (λ_=>False)) id) (n':=1) rfl ?_ Z Z ?_
   .intro u hu;simp at hu;rcases hu with rfl|rfl;exact hp.bC;exact iW _
   intro v5 fQ f5 m5 Ul q5;simp only[go_sem,Ul.live,ew];refine lR (r-1) _ _ _ Z ⟨i+1,fQ,v5,Z,E6,E6,E6,E6,E6,(g3.trans (q4.fr g9 (· =7)) (λ_ h=>h) (λ_ h=>h)).trans q5 (λ_ h=>h) Z,?_⟩;rw[agX _ _ _ _ hi];trivial
  .have c1:¬(i:Int)<pre.length:=by omega
   obtain rfl:i=pre.length:=Z;refine zS ?_;rw[mJ] at M;exact hE _ _ _ ⟨g9,v3,l,g3,M⟩
 .rintro e f3 s ⟨g9,v3,l,g3,M⟩;have q3:B d C f3 s:=g3.xD Z;have H3:=A.gr (q2.trans q3);simp only[go_sem,l,M.live, ↓ag 311];have el:(WO a pg pre).length=pre.length:=by unfold WO;rw[dT]
  have hR:=M.uf;rw[←el] at hR;refine(WR (WO a pg pre) hR (λp hp=>?_) Z (λi=>?_)).bu ?_
  .obtain ⟨z,hz,rfl⟩:=fA.1 hp;exact(H3.pv z W).Dl
  .have:(WO a pg pre).take i=WO a pg (pre.take i):=by unfold WO;rw[FG]
   rw[this,a9V];grind
  rintro u f4 m4 ⟨hu,q4⟩;rw[a9V] at hu;have q:=((q1.trans q2).trans q3).trans q4;obtain⟨ow,so⟩:=hu.sl;simp only[go_sem,so.live];exact hk _ _ _ ⟨u,rfl,hu.lo ((q1.trans q2).trans q3).le,q⟩
end
def Gd.at{N:Int}{P:Int->Int}:∀{l:dC} {D:Int->Prop},Gd N P D l->∀(i:Nat) (h:i<l.length) (j:Int),Nd N P j->P j=l[i]->D j\/j∈l.take i
 |[],_,_,i,h,_,_,_=>absurd h (Nat.not_lt_zero _)
 |x::l,D,g,0,h,j,z,e=>.inl (g.1 j z e)
 |x::l,D,g,i+1,h,j,z,e=>by
  rcases g.2.at i (Nat.lt_of_succ_lt_succ h) j z e with(A|A)|A
  .exact .inl A
  .exact .inr (by rw[A];simp)
  .exact .inr (by simp[A])
section
variable {own:aG} {f:av} {m aEU cV:Nat} {gen:aG} {op:bs} {P:Int->Int} {cl:aG} {pg:Nat->dC} {a:tX}
structure akx(aEU:Nat)(gen:aG)(op:bs)(cV:Nat)(P:Int->Int)(cl:aG)(pg:Nat->dC)(D:aI)(bo:aG)(f':av)(m':Nat)(wH:aG)(op':bs)(wX:Nat)(P':Int->Int)(a':tX):Prop where
 t:fX bo f' m' aEU wH op' wX P' cl pg a'
 op:∀k,op' k=true↔op k=true/\k∉D
 P:∀k:Int,P' k=if k∈D.map (λ(x:Nat)=>(x:Int)) then -1 else P k
 g:∀k,wH k<=gen k+if k∈D then 1 else 0
 c:wX<=cV
def a1x{R:Rt}(H:fX own f m aEU gen op cV P cl pg a)(hg:∀p,gen p<=1048575)(hd:∀l:aI,l.Nodup->(∀z∈l,op z=true)->(l.flatMap pg).length<=64)(r:Int)(hr:r<=9223372036854775807)(hh:pM gen op r):
  Cl R.Y.Y.Y.Y.Y.Y.Y.Y.Y 146 [.ptr aEU 0,Q r] f m (λv y L=>∃(pre:aI) (u:V) (bo:aG),v= .cI [u,Q 0]/\pre.Nodup/\(∀z∈pre,op z=true/\cl z=cl (hP r))/\hP r∈pre/\bS bo 8 y L 3 1 u (pre.flatMap pg).length ((pre.flatMap pg).map λ(x:Int)=>Q x)/\
   (∃wH d wX P' a',fX bo y L aEU wH d wX P' cl pg a'/\(∀k,d k=true↔op k=true/\k∉pre)/\(∀k,wH k<=gen k+1)/\wX<=cV)/\Fr PZ own f m bo y L):=by
 intro k aEY hk;have ho:=hh.2.2.2.1;obtain⟨pre,post,sb,EW,aqn,aiN⟩:=a1q H.fo (hP r) (H.lt ho) ho;have zy:∀z∈pre,op z=true/\cl z=cl (hP r):=λz C=>by refine⟨(sb.ok z C).2,?_⟩;exact(sb.up (λk=>k<4096/\cl k.toNat=cl (hP r)) (λk hk hM=>⟨hk.2.1,by rw[←H.up k hk hM.1];exact hM.2⟩) ⟨by have:=H.lt ho;omega,rfl⟩ z C).2
 have hnp:post.Nodup:=sb.pm.nodup_iff.2 sb.nd;have hlen:post.length=pre.length:=sb.pm.length_eq;refine cUx func146 ?_;simp only[go_sem, ↓ag 229];refine(VP H r hr hh pre (λz C=>(sb.ok z C).2) EW (λi=>by have:=hd (pre.take i) (sb.nd.sublist (List.take_sublist _ _)) (λz C=>(sb.ok z (List.mem_of_mem_take C)).2);omega) aqn).bu ?_;rintro v f1 m1 ⟨u,rfl,hu,q1⟩;obtain⟨bX,r1,s1⟩:=hu.to q1 own 8;have H1:=H.ah r1 (λ_ _=>id) id;simp only[go_sem,s1.live, ↓ag 221];apply(pI H1 r hr).bu;rintro v f2 m2 ⟨hv,q2⟩;rw[ao hh] at hv;subst hv;have H2:=H1.gr q2;have hZ:=H2.aZ.obj;simp only[go_sem,hZ, ↓ag 230];apply(aiN bX f2 m2 _ H2.fo).bu;rintro v N m3 ⟨q3,hV⟩;obtain⟨g9,r3,sv3⟩:=hV.to q3 bX 8;have tI:=λq=>sv3.jD Z q;simp only[go_sem,tI];have H3:=H2.ah r3 (λ_ _=>id) id;have s3:=(s1.ah (q2.fr bX (λ_=>False)) id).ah r3 id;have n8:¬PZ 8:=by unfold PZ PF;decide
 have n55:¬PZ 55:=by unfold PZ PF;decide
 have r03:Fr PZ own f m g9 N m3:=(r1.trans (q2.fr bX (λ_=>False)) (λ_ h=>h.elim) (λ_ h=>h.elim)).trans r3 (λ_ h=>h) (λ_ h=>h.elim);refine cU (x:=.exit 0) (n:=post.length) (aF0:=λr e y L=>∃(i:Nat) (bo:aG) (wH:aG) (d:bs) (wX:Nat) (P':Int->Int) (a':tX),i+r=post.length/\(eg 0).get e= .ptr aEU 0/\(eg 6).get e=u/\(eg 32).get e=v/\(eg 33).get e=Q post.length/\(eg 34).get e=Q i/\akx aEU gen op cV P cl pg (post.take i) bo y L wH d wX P' a'/\Fr PZ g9 N m3 bo y L)
  (E:=λe y L=>∃(bo:aG) (wH:aG) (d:bs) (wX:Nat) (P':Int->Int) (a':tX),(eg 6).get e=u/\akx aEU gen op cV P cl pg post bo y L wH d wX P' a'/\Fr PZ g9 N m3 bo y L) ?_ J2 ?_ ?_
 .exact ⟨0,g9,gen,op,cV,P,a,Z,E6,E6,E6,E6,E6,⟨H3,λk=>J1,λk=>J1,λk=>Nat.le_add_right _ _,bP _⟩,Fr.refl _ _ _ _⟩
 .rintro rr e f4 m4 ⟨i,S,a4v,op4,a9e,P4,a4,hi,e0,e6,e32,e33,e34,D4,q4⟩ rk kx lR hE;unfold iB;by_cases A:i<post.length
  .have c1:(i:Int)<post.length:=by omega
   obtain⟨b,o,cp,mm,fz,w,z,g,ee,Uz,hf,nz,Uw⟩:=((sv3.ah q4 n8).toI).at (i:=i) (by simpa using A);rw[dT] at ee;subst ee;have Uw:g (o+i)=Q (post[i]:Nat):=Zq;have QP:post[i]∈pre:=sb.pm.mem_iff.1 (eL A);have hnt:post[i]∉post.take i:=λhm=>by obtain⟨j,hj,e⟩:=jm hm;rw[uF] at hj;rw[ux] at e;exact absurd ((AB hnp).1 e) Z
   have apj:op4 post[i]=true:=(D4.op _).2 ⟨(sb.ok _ QP).2,hnt⟩;have apx:post[i]<4096:=(sb.ok _ QP).1;have hZ4:=D4.t.aZ.obj;have hM4:=D4.t.am.obj;have e1:aEU≠a4.M:=D4.t.aZ.kv D4.t.am qM;have ew:IntKind.i64.wrap ((i:Int)+1)=((i+1:Nat):Int):=Qf;simp only[go_sem,e0,e32,e33,e34,c1,A,hf,nz,Uw,hZ4,hM4,e1, ↓ag 231];refine aP ?_;intro F hF;have q5:Fr (· =54) S f4 m4 S F m4:=by rw[hF];exact(Fr.w (m2:=m4) (by repeat (first|exact Fr.refl _ _ _ _|refine Fr.bw ?_ (by first|exact λh=>absurd h J7|exact λ_=>D4.t.am.own|exact λ_=>.inl D4.t.am.own|exact λ_=>.inr D4.t.am.own))) E1)
   have fo5:=D4.t.fo.ah q5 W;have hk0:∀j,Nd (4096:Nat) P4 j->P4 j≠post[i]:=λj hj e=>by
    have hnj:j∉(post.take i).map (λ(x:Nat)=>(x:Int)):=λhm=>by have h2:=hj.2.2;rw[D4.P,ao hm] at h2;omega
    have hPj:P j=P4 j:=by rw[D4.P,aj hnj]
    have h1:=sb.gd.at i (by simpa using A) j ⟨hj.1,hj.2.1,by rw[hPj];exact hj.2.2⟩ (by rw[hPj,e];simp);rw[←FG] at h1;exact hnj (h1.resolve_left id)
   apply(a4H fo5 post[i] apx apj hk0 (by have h1:=D4.g post[i];have h2:=hg post[i];rw[aj hnt] at h1;omega)).bu;rintro v6 f6 m6 ⟨rfl,agZ,⟨fa6,fo6⟩,hc6,q6⟩;refine zS ?_;have n54:¬PF 54:=L7;have aok:¬PF 55:=L7;have Z5:At S 54 F m4 aEU (.row 189 2 0 true [.bg,.fR] (.cf (bI [.ptr a4.T 0,.map a4.M]))):=⟨by rw[hF,aE e1];exact hZ4,D4.t.aZ.own,D4.t.aZ.lt⟩;have M5:At S 54 F m4 a4.M (.map (enc (iO a4.l post[i])) a4.ck):=⟨O2,D4.t.am.own,D4.t.am.lt⟩;have q56:Fr PZ S f4 m4 agZ f6 m6:=q5.trans q6 (λ_ h=>.inr h) (λ_ h=>.inl h);refine lR (rr-1) _ _ _ Z ⟨i+1,agZ,vV a4v post[i] (a4v post[i]+1),fB op4 post[i] false,a9e-1,up P4 post[i] (-1),{a4 with l:=iO a4.l post[i],fa:=fa6},Z,E6,E6,E6,E6,E6,⟨⟨Z5.ah q6 n54,M5.ah q6 n54,D4.t.wf.del _,fo6,λk hk=>?_,λk hk=>?_,λk hk=>?_,λk hk=>?_,λk hk Us=>?_⟩,λk=>?_,λk=>?_,λk=>?_,by have:=D4.c;omega⟩,q4.trans q56 (λ_ h=>h) (λ_ h=>h)⟩
   .have xl:k≠post[i]:=λe=>by rw[e,fu] at hk;cases hk
    rw[dn xl] at hk;show cC (iO a4.l post[i]) k=_;rw[jH D4.t.wf.keys,aj Z];exact D4.t.mo k hk
   .have xl:k≠post[i]:=λe=>by rw[e,fu] at hk;cases hk
    rw[dn xl] at hk;exact((D4.t.pv k hk).ah q5 I).ah q6 aok
   .have xl:k≠post[i]:=λe=>by rw[e,fu] at hk;cases hk
    rw[dn xl] at hk;exact D4.t.c64 k hk
   .have xl:k≠post[i]:=λe=>by rw[e,fu] at hk;cases hk
    rw[dn xl] at hk;exact D4.t.pl k hk
   .have e2:up P4 post[i] (-1) k=if k=(post[i]:Nat) then -1 else P4 k:=rfl
    obtain⟨k0,k1,s⟩:=hk;by_cases e:k=(post[i]:Nat)
    .rw [e2,ao e] at s;omega
    .rw [e2,aj e] at s Us ⊢;exact D4.t.up k ⟨k0,k1,s⟩ Us
   .rw [jr A,fJ,rY];by_cases e:k=post[i]
    .rw [e,fu];simp
    .rw [dn e,D4.op];simp[e]
   .have e2:up P4 post[i] (-1) k=if k=(post[i]:Nat) then -1 else P4 k:=rfl
    rw[e2,jr A,iH];by_cases e:k=(post[i]:Nat)
    .rw [ao e,ao (by rw[e];simp)]
    .rw [aj e,D4.P];by_cases h:k∈(post.take i).map (λ(x:Nat)=>(x:Int))
     .rw [ao h,ao (fJ.2 (.inl h))]
     .rw [aj h,aj (by rw[fJ,not_or];exact⟨h,by simpa using e⟩)]
   .rw [jr A];have hg4:=D4.g k;unfold vV;by_cases e:k=post[i]
    .rw [ao e,ao (fJ.2 (.inr (rY.2 e)))];rw[e] at hg4 ⊢;rw[aj hnt] at hg4;omega
    .rw [aj e];by_cases h:k∈post.take i
     .rw [ao (fJ.2 (.inl h))];rw[ao h] at hg4;exact hg4
     .rw [aj h] at hg4;omega
  .have c1:¬(i:Int)<post.length:=by omega
   obtain rfl:i=post.length:=Z;rw[mJ] at D4;refine zS ?_;exact hE _ _ _ ⟨S,a4v,op4,a9e,P4,a4,e6,D4,q4⟩
 .rintro e f4 m4 ⟨S,a4v,op4,a9e,P4,a4,e6,D4,q4⟩;have s4:=s3.ah q4 n8;simp only[go_sem,e6,s4.live];refine hk _ _ _ ⟨pre,u,S,rfl,sb.nd,zy,sb.hd,s4,⟨a4v,op4,a9e,P4,a4,D4.t,λk=>?_,λk=>?_,D4.c⟩,r03.trans q4 (λ_ h=>h) (λ_ h=>h)⟩
  .rw [D4.op,sb.pm.mem_iff]
  .have:=D4.g k;split at this<;>omega
end
section
variable {own:aG} {f:av} {m aEU cV:Nat} {gen:aG} {op:bs} {P:Int->Int} {cl:aG} {pg:Nat->dC} {a:tX}
def abd{R:Rt}(H:fX own f m aEU gen op cV P cl pg a)(hg:∀p,gen p<=1048575)(c:Int):
  Cl R.Y.Y.Y.Y.Y 134 [.ptr aEU 0,Q c] f m (λu y L=>(∃n cs,n<=4096/\i7 y L 3 1 u n cs)/\B f m y L):=by
 intro k aEY hk;have hi:=OB H;have S:=H.aZ.obj;refine cUx func134 ?_;simp only[go_sem,hi,S, ↓ag 204];apply(YZ H.fo).bu;rintro v f1 l ⟨q1,xs,hl,hx,hI⟩;have tI:=λq=>hI.jD W q;rw[dT] at tI;refine zS ?_;refine cU (x:=.exit 0) (n:=xs.length) (aF0:=λr e y L=>∃(i n:Nat) (t:aG) (N:V) (cs:ay),i+r=xs.length/\n<=i/\(eg 0).get e= .ptr aEU 0/\(eg 1).get e=Q c/\(eg 17).get e=v/\(eg 18).get e=Q xs.length/\(eg 19).get e=Q i/\(eg 5).get e=N/\Fr (· =7) (λ_=>0) f1 l t y L/\bS t 7 y L 3 1 N n cs)
  (E:=λe y L=>∃(n:Nat) (t:aG) (N:V) (cs:ay),n<=4096/\(eg 5).get e=N/\Fr (· =7) (λ_=>0) f1 l t y L/\bS t 7 y L 3 1 N n cs) ?_ J2 ?_ ?_
 .exact ⟨0,0,λ_=>0,.au,[],Z,Z,E6,E6,E6,E6,E6,E6,Fr.refl _ _ _ _,bS.nil⟩
 .rintro r e d C ⟨i,n,dm,v2,cs,hr,hn,e0,e1,e17,e18,e19,e5,g2,M⟩ rr kx lR hE;unfold iB;have q2:B f1 l d C:=g2.xD Z;by_cases A:i<xs.length
  .have c1:(i:Int)<xs.length:=by omega
   obtain⟨b,o,cp,mm,fz,w,z,g,ee,Uz,hf,nz,Uw⟩:=(hI.gr q2).at (i:=i) W;rw[dT] at ee;subst ee;have Uw:g (o+i)=Q (xs[i]:Nat):=Zq;have H2:=H.gr (q1.trans q2);have hZ2:=H2.aZ.obj;have hM2:=H2.am.obj;obtain⟨Ny,rR⟩:=hx _ (eL A);have hmo:=H.mo _ rR;have ew:IntKind.i64.wrap ((i:Int)+1)=((i+1:Nat):Int):=Qf;by_cases hc:((cl xs[i]:Nat):Int)=c
   .have hT:=H2.fo.aT.obj;have hgn:=xI H2.fo.s xs[i] Ny;simp only[go_sem,e0,e1,e17,e18,e19,c1,A,hf,nz,Uw,hZ2,hM2,hmo,hc,hT,hgn, ↓ag 205];have eX:Cl R.Y.Y.Y.Y 205 [Q 2,Q xs[i],Q (gen xs[i]),Q 0] d C (λv y L=>v= .cI [Q (kN 2 xs[i] (gen xs[i]) 0),Q 0]/\B d C y L):=oC 2 xs[i] (gen xs[i]) 0 I Z W I R.Y.Y d C;refine eX.bu ?_;rintro v3 f3 m3 ⟨rfl,q3⟩;simp only[go_sem,e5,M.live];refine gE ?_;intro F j;have q4:B f3 m3 F (pl m3 1):=by rw[j];exact(B.w (m2:=m3) Qc E1)
    have q34:=q3.trans q4;refine dv (M.ah (q34.fr dm (λ_=>False)) id) (n':=1) rfl (qS _) Z Z ?_;intro v5 fQ f5 m5 Ul q5;simp only[go_sem,e19,Ul.live,ew];exact lR (r-1) _ _ _ Z ⟨i+1,n+1,fQ,v5,_,Z,Z,E6,E6,E6,E6,E6,E6,(g2.trans (q34.fr dm (· =7)) (λ_ h=>h) (λ_ h=>h)).trans q5 (λ_ h=>h) (λ_ h=>h),Ul⟩
   .simp only[go_sem,e0,e1,e17,e18,e19,c1,A,hf,nz,Uw,hZ2,hM2,hmo,eq_false hc,ew];exact lR (r-1) _ _ _ Z ⟨i+1,n,dm,v2,cs,Z,Z,E6,E6,E6,E6,E6,E6,g2,M⟩
  .have c1:¬(i:Int)<xs.length:=by omega
   refine zS ?_;exact hE _ _ _ ⟨n,dm,v2,cs,Z,e5,g2,M⟩
 .rintro e d C ⟨n,dm,v2,cs,hn,e5,g2,M⟩;simp only[go_sem,e5,M.live];exact hk _ _ _ ⟨⟨n,cs,hn,M.uf⟩,q1.trans (g2.xD Z)⟩
def a6M(own f)(m:Nat)(R:Rt):
  Cl R.Y.Y.Y 37 [] f m (λv y L=>∃aEU t a,v= .ptr aEU 0/\fX t y L aEU (λ_=>0) (λ_=>false) 0 (λ_=>-1) (λ_=>0) (λ_=>[]) a/\Fr (λ_=>False) own f m t y L):=by
 intro k c E;have g:Cl R.Y.Y 64 [Q 4096] f m _:=a8N own f m 4096 I R;refine cUx func37 ?_;simp only[go_sem, ↓ag 64];refine g.bu ?_;rintro v r l ⟨S,b,d,rfl,s,e⟩;refine zS ?_;refine fG ?_;intro F j;have o:Fr (λ_=>False) b r l (cm b l [54,54]) F (pl l 2):=Fr.cm (P:=λ_=>False) (B.fr (by rw[j];exact(B.w (m2:=l) Qd E1)) _ _) G;exact E _ _ _ ⟨pl l 1,_,⟨S,l,[],0,d,λ_=>.au,λ_=>0⟩,rfl,⟨gh (i:=1) Q0 rfl G,ez Y0 rfl G,Wf.nil _,s.ah o (λ_ _=>id),W,λk h=>Q8,Z,λk h=>Q8,Z⟩,e.trans o (λ_ h=>h) (λ_ h=>h)⟩
end
variable{M:Nat}
structure Bs where
 n:Nat
 sz:Nat
 qt:Nat
 ph:aG
 ow:dc
 ge:dc
 xs:aI
 ws:aI
 tk:Int
 gen:aG
 op:bs
 cV:Nat
 acc:Nat->Acc
 ts:List Tk
 pu:Nat->aI
structure nC where
 L:Nat
 A:Nat
 la:xg
 C:Nat
 r:Nm
 aF1:Nat
 b:uv
 aEV:Nat
 q:No
 M:Nat
 l:List (Int×V×Nat)
 ck:Nat
structure VF(own:aG)(f:av)(m M:Nat)(pu:Nat->aI)(l:List (Int×V×Nat))(ck:Nat):Prop where
 am:At own 40 f m M (.map (enc l) ck)
 wf:Wf l ck
 sl:∀p:Nat,p<64->bS own (100+p) f m 3 1 ((cC l p).getD .au) (pu p).length ((pu p).map λ(x:Nat)=>Q x)
structure cY(own:aG)(f:av)(m X:Nat)(b:Bs)(aEY N d:Nat)(a:nC):Prop where
 aX:At own 9 f m X (.row 130 6 0 true [.bg,.bg,.bg,.bg,.bg,.fR] (.cf (bI [.ptr a.L 0,.ptr a.r.S 0,.ptr a.C 0,.ptr a.aF1 0,.ptr a.aEV 0,.map a.M])))
 ue:fq own f m a.L b.n b.gen b.op b.cV b.acc a.A a.la
 re:ji own f m a.C b.n b.sz aEY b.qt b.ph b.ow b.ge b.xs b.ws b.tk a.r
 bk:ft own f m a.aF1 b.ts a.b
 qu:mW own f m a.aEV N d a.q
 pu:VF own f m a.M b.pu a.l a.ck
@[grind] def PBr(c:Nat):Prop:=PR c\/c=9\/c=22\/(32<=c/\c<=43)\/(100<=c/\c<164)
section
variable {own:aG} {f:av} {m X aEY N d:Nat} {b:Bs} {a:nC}
def VF.ah{a:Nat->aI}{l:List (Int×V×Nat)}{n:Nat}{P:dF}{t:aG}{L:Nat}(h:VF own f m M a l n)(q:Fr P own f m t y L)(b:¬P 40)(g:∀c,100<=c->c<164->¬P c):VF t y L M a l n:=
 ⟨h.am.ah q b,h.wf,λp i=>(h.sl p i).ah q W⟩
def cY.ah{P:dF}{t:aG}{L:Nat}(h:cY own f m X b aEY N d a)(q:Fr P own f m t y L)(g:∀c,PBr c->¬P c):cY t y L X b aEY N d a:=
 have e:∀c,(c=9\/c=22\/(32<=c/\c<=43)\/(100<=c/\c<164))->¬P c:=λc h=>g c (.inr h)
 ⟨h.aX.ah q W,h.ue.ah q W,h.re.ah q (λc h=>g c (.inl h)) W W,h.bk.ah q W,h.qu.ah q W,h.pu.ah q W W⟩
@[grind →] theorem cY.gr{L:Nat}(h:cY own f m X b aEY N d a)(q:B f m y L):cY own y L X b aEY N d a:=h.ah (q.fr own (λ_=>False)) (λ_ _=>id)
def cY.z(h:cY own f m X b aEY N d a):∀x,m<=x->own x=0:=h.ue.s.z
def cY.TM(h:cY own f m X b aEY N d a)(g:b.op p=true):p<64:=bW (h.ue.s.s.lt g) h.ue.s.s.fr
def CR(H:cY own f m X b aEY N d a)(R:Rt)(L:Nat)(k):R.Y.call 39 [.ptr X 0] (.fn f L) k=k (.bool true) (.fn f L):=by have w:=H.aX.obj;refine cUx func39 ?_;exact zC
def sP{R:Rt}(H:cY own f m X b aEY N d a)(h:Int)(g:h<=9223372036854775807):
  Cl R.Y.Y.Y.Y.Y 209 [.ptr X 0,Q h] f m (λv y L=>v=(if gU b.gen b.op h then .cI [Q (hP h),Q 0] else .cI [Q 0,Q (wY b.gen b.op h)])/\B f m y L):=by
 intro k aEY E;have F:=CR H;have w:=H.aX.obj;refine cUx func209 ?_;simp only[go_sem,F,w, ↓ag 133];apply(qZ H.ue h g).bu;rintro v r l ⟨rfl,P⟩;by_cases c:gU b.gen b.op h
 .rw [ao c] at E ⊢;simp only[go_sem];grind
 .rw [aj c] at E ⊢;simp only[go_sem];grind
def sG(b:Bs)(q:No)(h:Int):Prop:=gU b.gen b.op h/\¬0<q.hd (hP h)
instance (b:Bs) (q:No) (h:Int):Decidable (sG b q h):=by unfold sG;infer_instance
def x6{R:Rt}(H:cY own f m X b aEY N d a)(h:Int)(i:h<=9223372036854775807):
  Cl R.Y.Y.Y.Y.Y.Y 207 [.ptr X 0,Q h] f m (λv y L=>(∃e:Int,v= .cI [Q (if sG b a.q h then hP h else 0:Nat),Q e]/\(e=0↔sG b a.q h))/\B f m y L):=by
 intro k S E;refine cUx func207 ?_;simp only[go_sem, ↓ag 209];apply(sP H h i).bu;rintro v r l ⟨rfl,P⟩;have w:=(H.gr P).aX.obj;by_cases c:gU b.gen b.op h
 .rw [ao c];have hp:=H.TM c.2.1;have j:=JY (H.gr P).qu (hP h) hp;by_cases c2:0<a.q.hd (hP h)
  .refine zS ?_;have g:¬sG b a.q h:=λh=>h.2 c2;grind
  .refine zS ?_;have g:sG b a.q h:=G;grind
 .rw [aj c];have ce:=rB c;have g:¬sG b a.q h:=λh=>c h.1;refine zS ?_;grind
end
section
variable {own:aG} {f:av} {m X aEY N d:Nat} {b:Bs} {a:nC}
def a0e{R:Rt}(H:cY own f m X b aEY N d a)(h:Int)(g:h<=9223372036854775807):
  Cl R.Y.Y.Y.Y.Y.Y 201 [.ptr X 0,Q h] f m (λv y L=>v=(if gU b.gen b.op h then .cI [.bool (decide (0<a.q.hd (hP h))),Q 0] else .cI [.bool false,Q (wY b.gen b.op h)])/\B f m y L):=by
 intro k S E;refine cUx func201 ?_;simp only[go_sem, ↓ag 209];apply(sP H h g).bu;rintro v r l ⟨rfl,P⟩;have w:=(H.gr P).aX.obj;by_cases c:gU b.gen b.op h
 .rw [ao c] at E ⊢;have hp:=H.TM c.2.1;have i:=JY (H.gr P).qu (hP h) hp;have s:pb (0<a.q.hd (hP h))=decide (0<a.q.hd (hP h)):=by
   by_cases e:0<a.q.hd (hP h)
   .rw [mZ e,dI e]
   .rw [kM e,dB e]
  simp only[go_sem,w,i,s];grind
 .rw [aj c] at E ⊢;have ce:=rB c;simp only[go_sem,ce];grind
def a5t{R:Rt}(H:cY own f m X b aEY N d a)(h:Int)(g:h<=9223372036854775807):
  Cl R.Y.Y.Y.Y.Y.Y 155 [.ptr X 0,Q h] f m (λv y L=>(∃x e:Int,v= .cI [Q x,Q e]/\x<=9223372036854775807)/\B f m y L):=by
 intro k S E;refine cUx func155 ?_;simp only[go_sem, ↓ag 209];apply(sP H h g).bu;rintro v r l ⟨rfl,P⟩;have w:=(H.gr P).aX.obj;by_cases c:gU b.gen b.op h
 .rw [ao c];obtain⟨x,s,i⟩:=a2n (H.gr P).re (hP h);refine zS ?_;grind
 .rw [aj c];have ce:=rB c;refine zS ?_;grind
def nS{R:Rt}(H:cY own f m X b aEY N d a)(L:Nat)(k):R.Y.call 144 [.ptr X 0] (.fn f L) k=k (.ptr a.r.S 0) (.fn f L):=by have w:=H.aX.obj;refine cUx func144 ?_;exact zC
def Sn{R:Rt}(H:cY own f m X b aEY N d a)(x:Int):
  Cl R.Y.Y.Y 154 [.ptr X 0,Q x] f m (λv y L=>(∃i c n s p e:Int,v= .cI [.agg [Q i,Q c,Q n,Q s,Q p],Q e])/\B f m y L):=by
 intro k S E;refine cUx func154 ?_;refine zS ?_;refine ld ?_;intro F j;have g:B f m F (pl m 1):=Vv;have q:=CR (H.gr g);have o:=(H.gr g).aX.obj;simp only[go_sem,q,o, ↓ag 214];apply(x9 (H.gr g).bk x).bu;rintro v r l ⟨t,P⟩;have h:r m=(.row 49 5 0 true [.num 0,.num 0,.num 0,.num 0,.num 0] (.cf (zf [.num 0,.num 0,.num 0,.num 0,.num 0]))):=(P.ah m W).trans J3;obtain⟨i,c,n,s,p,e,rfl⟩:∃i c n s p e:Int,v= .cI [.agg [Q i,Q c,Q n,Q s,Q p],Q e]:=by grind
 simp only[go_sem,h];exact E _ _ _ ⟨W,(g.trans P).bw Z⟩
def Is{R:Rt}(H:cY own f m X b aEY N d a)(c:Int)(i:b.cV<64)(j:∀p,b.gen p<=1048575):
  Cl R.Y.Y.Y.Y.Y.Y 131 [.ptr X 0,Q c] f m (λv y L=>if 1<=c/\c<=b.n then ∃p,v= .cI [Q (kN 1 p (b.gen p) 0),Q 0]/\b.op p=false/\p<64/\(∃a',cY own y L X {b with op:=fB b.op p true,cV:=b.cV+1,acc:=kq b.acc p ⟨c,0,0⟩} aEY N d a')/\Fr PA own f m own y L else v= .cI [Q 0,Q 2]/\B f m y L):=by
 intro k S E;have F:=CR H;have h:=H.aX.obj;refine cUx func131 ?_;simp only[go_sem,F,h, ↓ag 200];apply(DF H.ue c i j).bu;intro v r l e;by_cases cc:1<=c/\c<=b.n
 .rw [ao cc] at e;obtain⟨p,rfl,o,g,⟨la,t⟩,q⟩:=e;refine zS ?_;refine E _ _ _ ?_
  dsimp only
  rw[ao cc];have w:¬PA 9:=W;exact⟨p,rfl,o,g,⟨{a with la:=la},⟨H.aX.ah q w,t,H.re.ah q W w W,H.bk.ah q W,H.qu.ah q W,H.pu.ah q W W⟩⟩,q⟩
 .rw [aj cc] at e;obtain⟨rfl,q⟩:=e;refine zS ?_;grind
def St{R:Rt}(H:cY own f m X b aEY N d a)(h:Int)(g:h<=9223372036854775807)(u:∀p,b.gen p<=1048575):
  Cl R.Y.Y.Y.Y.Y.Y.Y 135 [.ptr X 0,Q h] f m (λv y L=>(∃e:Int,e≠0/\v=Q e/\B f m y L)\/v=Q 0/\sG b a.q h/\(b.acc (hP h)).h+(b.acc (hP h)).r<=0/\0<b.cV/\∃t,(∃a',cY t y L X {b with gen:=vV b.gen (hP h) (b.gen (hP h)+1),op:=fB b.op (hP h) false,cV:=b.cV-1} aEY N d a')/\Fr PA own f m t y L):=by
 intro k S E;refine cUx func135 ?_;simp only[go_sem, ↓ag 207];apply(x6 H h g).bu;rintro v z l ⟨⟨e,rfl,n⟩,P⟩;have j:=(H.gr P).aX.obj;by_cases c:e=0
 .have F:=n.1 c;rw[c,ao F];simp only[go_sem,j, ↓ag 208];apply(Lw (H.gr P).ue h g F.1 u).bu;intro v M C i;by_cases c2:0<(b.acc (hP h)).h+(b.acc (hP h)).r
  .rw [ao c2] at i;obtain⟨rfl,o⟩:=i;refine zS ?_;exact E _ _ _ (.inl ⟨11,I,rfl,P.trans o⟩)
  .rw [aj c2] at i;obtain⟨rfl,s,t,⟨la,x⟩,o⟩:=i;refine zS ?_;have w:¬PA 9:=W;have A:=H.gr P;exact E _ _ _ (.inr ⟨rfl,F,Z,s,t,⟨{a with la:=la},⟨A.aX.ah o w,x,A.re.ah o W w W,A.bk.ah o W,A.qu.ah o W,A.pu.ah o W W⟩⟩,(P.fr own PA).trans o (λ_ h=>h) (λ_ h=>h)⟩)
 .simp only[go_sem,c];grind
end
def puC(l:aI):ay:=l.map λ(x:Nat)=>Q x
section
variable {own:aG} {f:av} {m X aEY N d:Nat} {b:Bs} {a:nC}
def MQ{R:Rt}(H:cY own f m X b aEY N d a)(p:Nat)(hp:p<64)(n:Nat)(A:1<=n)(hn:n<=(b.pu p).length)(hl:(b.pu p).length<=64):
  Cl R.Y 225 [.ptr X 0,Q p,Q n] f m (λv y L=>bS own (100+p) y L 3 1 v n (puC ((b.pu p).take n))/\(∃l ck,cY own y L X {b with pu:=dE b.pu p ((b.pu p).drop n)} aEY N d {a with l:=l,ck:=ck})/\Fr (· =40) own f m own y L):=by
 intro k S E;have hX:=H.aX.obj;have hM:=H.pu.am.obj;have hs:=H.pu.sl p hp;obtain⟨v,hv⟩:∃v,v=(cC a.l p).getD .au:=W;rw[←hv] at hs;rcases hs with⟨_,s,_⟩|⟨i,o,cp,mm,w,P,g,rfl,hA,h3,h4,h5,h6,h7⟩
 .omega
 have hs:bS own (100+p) f m 3 1 (.sl i o (b.pu p).length cp) (b.pu p).length ((b.pu p).map λ(x:Nat)=>Q x):=.inr ⟨i,o,cp,mm,w,P,g,rfl,hA,h3,h4,h5,h6,h7⟩;have hg:cC a.l p=some (.sl i o (b.pu p).length cp):=by
  cases h:cC a.l p with
  |none=>grind
  |some u=>grind
 have C:=λb' q=>UO (b:=b') (q:=q) h7 hn;have ZV:=λb' q=>UQ (b:=b') (q:=q) h7 hn;have hsf:=hs.suf hn;have n1:X≠a.M:=W;have hmu:=λF M k=>Hf 128 a.M p hsf.bC F M k;have c:n-0=n:=G;refine cUx func225 ?_;simp only[go_sem,hX,hM,hg,hmu, ↓C, ↓ZV];refine fG ?_;intro aEZ hG;have t:Fr (· =40) own f m own aEZ m:=by rw[hG];exact(Fr.refl _ own f m).bw (λ_=>H.pu.am.own)
 have HG:=H.pu;have Hz:bS own (100+p) f m 3 1 (.sl i o n (.known n)) n (puC ((b.pu p).take n)):=by refine .inr ⟨i,o,.known n,mm,w,P,g,rfl,hA,by unfold puC;grind,Z,λj z=>?_,h6,⟨bP _,Z⟩⟩;unfold puC;rw[h5 j Z,k9 _ _ Z,k9 _ _ W,ux]
 refine E _ _ _ ⟨Hz.ah t Z,⟨eJ a.l p (a6T i o (b.pu p).length cp n 1) a.ck,im a.l p a.ck,⟨H.aX.ah t I,H.ue.ah t I,H.re.ah t W I I,H.bk.ah t I,H.qu.ah t I,⟨⟨X8,H.pu.am.own,H.pu.am.lt⟩,H.pu.wf.set _ _,λr hr=>?_⟩⟩⟩,t⟩;show bS own (100+r) aEZ m _ 1 ((cC (eJ a.l p (a6T i o (b.pu p).length cp n 1) a.ck) r).getD .au) _ _;rw[dR];by_cases e:(p:Int)=r
 .obtain rfl:p=r:=by omega
  rw[ao rfl];show bS own (100+p) aEZ m _ 1 _ (dE b.pu p ((b.pu p).drop n) p).length ((dE b.pu p ((b.pu p).drop n) p).map _);rw[cj,NM,List.map_drop];have:=hsf.ah t Z;grind
 .rw [aj e];show bS own (100+r) aEZ m _ 1 _ (dE b.pu p ((b.pu p).drop n) r).length ((dE b.pu p ((b.pu p).drop n) r).map _);rw[dd Z];exact(H.pu.sl r hr).ah t Z
def Au(H:cY own f m X b aEY N d a)(p:Nat)(g:p<64):∃v,(cC a.l p).getD .au=v/\bS own (100+p) f m 3 1 v (b.pu p).length (puC (b.pu p)):=⟨_,rfl,H.pu.sl p g⟩
def a0g{R:Rt}(H:cY own f m X b aEY N d a)(h:Int)(hh:h<=9223372036854775807)(hl:∀p,(b.pu p).length<=64):
  Cl R.Y.Y.Y.Y.Y.Y.Y 142 [.ptr X 0,Q h] f m (λv y L=>(∃e:Int,e≠0/\v= .cI [Q 0,Q e]/\B f m y L)\/∃c l,v= .cI [Q (c:Nat),Q 0]/\sG b a.q h/\b.pu (hP h)=c::l/\(∃l' ck,cY own y L X {b with pu:=dE b.pu (hP h) l} aEY N d {a with l:=l',ck:=ck})/\Fr (· =40) own f m own y L):=by
 intro k S E;refine cUx func142 ?_;simp only[go_sem, ↓ag 207];apply(x6 H h hh).bu;rintro v f1 m1 ⟨⟨e,rfl,he⟩,P⟩;have A:=H.gr P;have hX:=A.aX.obj;have hM:=A.pu.am.obj;by_cases c:e=0
 case neg=>simp only[go_sem,c];exact E _ _ _ (.inl ⟨e,c,rfl,P⟩)
 have F:=he.1 c;have hp:=H.TM F.1.2.1;rw[c,ao F];obtain⟨w,hw,M⟩:=Au A (hP h) hp;have tI:=λq=>M.jD (by have:=hl (hP h);omega) q;by_cases c2:b.pu (hP h)= []
 .have e0:(b.pu (hP h)).length=0:=by rw[c2];rfl
  have u:(((b.pu (hP h)).length:Nat):Int)=0:=Z;refine zS ?_;exact E _ _ _ (.inl ⟨9,I,rfl,P⟩)
 obtain⟨x,l,j⟩:∃x l,b.pu (hP h)=x::l:=by
  cases hb:b.pu (hP h) with
  |nil=>exact absurd hb c2
  |cons x l=>exact⟨x,l,rfl⟩
 have u:¬(((b.pu (hP h)).length:Nat):Int)=0:=by rw[j,kg];omega
 simp only[go_sem,hX,hM,hw,tI,u, ↓ag 225];apply(MQ A (hP h) hp 1 (bP _) (by rw[j];simp) (hl _)).bu;rintro v f2 C ⟨hv,⟨l',ck,n⟩,q2⟩;rw[j] at hv n;rcases hv with⟨_,s,_⟩|⟨i,o,cp,mm,w',zs,g,rfl,hA,h3,h4,r,h6,h7⟩
 .cases s
 have t:g o=Q (x:Nat):=r 0 I;have z:=hA.obj;have c5:o<mm:=Z;refine zS ?_;exact E _ _ _ (.inr ⟨x,l,rfl,F,j,⟨l',ck,n⟩,(P.fr own _).trans q2 (λ_ h=>h) (λ_ h=>h)⟩)
end
variable{aEY l:Nat}{ge:dc}
def adh{x:Acc}(d:qk x){n:Int}(A:1<=n)(N:n<=x.h):jj.LV.e x n=0:=by unfold qk at d;have h:jj.LV.ok x n:=⟨A,Z,by show 1<=x.c/\x.c<=1048576/\0<=x.h-n/\0<=x.r/\x.h-n+x.r<=x.c;omega⟩;unfold jj.e;grind
def ade{x:Acc}(d:qk x){n:Int}(A:1<=n)(N:n<=x.r):jj.uj.e x n=0:=by unfold qk at d;have h:jj.uj.ok x n:=⟨A,Z,by show 1<=x.c/\x.c<=1048576/\0<=x.h+n/\0<=x.r-n/\x.h+n+(x.r-n)<=x.c;omega⟩;unfold jj.e;grind
def a5e{x:Acc}(d:qk x){n:Int}(A:1<=n)(N:n<=x.r):jj.IQ.e x n=0:=by unfold qk at d;have h:jj.IQ.ok x n:=⟨A,Z,by show 1<=x.c/\x.c<=1048576/\0<=x.h/\0<=x.r-n/\x.h+(x.r-n)<=x.c;omega⟩;unfold jj.e;grind
def ji.sEq{t:aG}{L C n o z:Nat}{k b:aG}{d c g:dc}{xs p E i:aI}{tk j:Int}{a a':Nm}(h:ji own f m C n o aEY z k d ge xs p tk a)(h':ji t y L C n o l z b c g E i j a')(e:y C=f C):a'.S=a.S:=by have A:=h'.aC.obj.symm.trans (e.trans h.aC.obj);injection A with _ _ _ _ _ N;injection N with M;have u:=congrFun M 1;have r:V.ptr a'.S 0=V.ptr a.S 0:=u;grind
def vP(b:Bs)(p:Nat)(cs:aI):Bs:={b with ph:=λj=>if j∈cs then 2 else b.ph j,ow:=λj=>if j∈cs then 0 else b.ow j,ws:=b.ws++cs,acc:=kq b.acc p ⟨(b.acc p).c,(b.acc p).h-cs.length,(b.acc p).r⟩}
def SO(b:Bs)(p:Nat):vP b p []=b:=by
 unfold vP;have:kq b.acc p ⟨(b.acc p).c,(b.acc p).h-([]:aI).length,(b.acc p).r⟩=b.acc:=by
  funext j;unfold kq;split
  .rename_i h;subst h;simp
  .rfl
 rw[this];simp
def a1s(b:Bs)(p:Nat)(l)(i:Nat)(h:jj.LV.e ((vP b p l).acc p) 1=0):vP b p (l++ [i])={vP b p l with ph:=ib (vP b p l).ph i 2,ow:=eH (vP b p l).ow i 0,ws:=(vP b p l).ws++ [i],acc:=qi .LV (vP b p l).acc p 1}:=by
 have u:(vP b p (l++ [i])).ph=ib (vP b p l).ph i 2:=by
  funext j;show(if j∈l++ [i] then 2 else b.ph j)=ib (λj=>if j∈l then 2 else b.ph j) i 2 j;unfold ib;by_cases e:j=i
  .grind
  .grind
 have a:(vP b p (l++ [i])).ow=eH (vP b p l).ow i 0:=by
  funext j;show(if j∈l++ [i] then 0 else b.ow j)=eH (λj=>if j∈l then 0 else b.ow j) i 0 j;unfold eH;by_cases e:j=i
  .grind
  .grind
 have A:(vP b p (l++ [i])).acc=qi .LV (vP b p l).acc p 1:=by
  unfold qi;rw[ao h];funext j;show kq b.acc p _ j=kq (kq b.acc p _) p (jj.LV.ap (kq b.acc p _ p) 1) j;rw[dQ];unfold kq;split
  .show Acc.mk _ ((b.acc p).h-((l++ [i]).length:Nat)) _=Acc.mk _ ((b.acc p).h-(l.length:Nat)-1) _;grind
  .rfl
 have C:(vP b p (l++ [i])).ws=(vP b p l).ws++ [i]:=(pj ..).symm;rw[←u,←a,←A,←C];rfl
@[grind] def PUp(c:Nat):Prop:=PR c\/c=32
section
variable {own:aG} {f:av} {m X aEY N d:Nat} {b:Bs} {a:nC}
def a5r{R:Rt}(H:cY own f m X b aEY N d a)(h:Int)(hh:h<=9223372036854775807)(hc:gU b.gen b.op h){v:V}{cs:aI}
  (hv:∀t y L,Fr PUp own f m t y L->i7 y L 3 1 v cs.length (puC cs)) (Cq:cs.Nodup) (QX:∀i∈cs,i<b.n/\b.ph i=1/\b.ow i=(hP h:Nat)+1) (hK:aEY+cs.length<1048575) (hb:(cs.length:Int)<=(b.acc (hP h)).h):
  Cl R.Y.Y.Y.Y.Y.Y.Y.Y.Y.Y 233 [.ptr X 0,Q h,Q (hP h:Nat),v] f m (λu y L=>u=Q 0/\∃t,(∃a',cY t y L X (vP b (hP h) cs) (aEY+cs.length) N d a')/\Fr PUp own f m t y L):=by
 intro k T hk;have hI:=hv _ _ _ (Fr.refl ..);have hp:=H.TM hc.2.1;have zy:cs.length<=64:=cL (dg Cq (λi F=>W)) H.re.st.s.n1;have tI:=λq=>hI.jD Z q;obtain⟨t1,t2,t3,t4⟩:=bV hI;have hR0:=H.ue.s.ok _ hc.2.1;refine cUx func233 ?_;refine zS ?_;refine cU (x:=.exit 0) (n:=cs.length+1) (aF0:=λrem e y L=>∃(j:Nat) (t:aG) (a':nC),j+rem=cs.length+1/\1<=rem/\cY t y L X (vP b (hP h) (cs.take j)) (aEY+j) N d a'/\Fr PUp own f m t y L/\(eg 0).get e= .ptr X 0/\(eg 1).get e=Q h/\(eg 2).get e=Q (hP h:Nat)/\(eg 13).get e=v/\(eg 14).get e=Q cs.length/\(eg 15).get e=Q j)
  (E:=λe y L=>∃t,(∃a',cY t y L X (vP b (hP h) cs) (aEY+cs.length) N d a')/\Fr PUp own f m t y L) ?_ J2 ?_ ?_
 .exact ⟨0,own,a,Z,Z,by rw[List.take_zero,SO];exact H,Fr.refl ..,E6,E6,E6,E6,E6,E6⟩
 .rintro rem e f1 l ⟨j,bX,a1,hjr,Hy,A,P,e0,e1,e2,e13,e14,e15⟩ rr kx lR hE;unfold iB;by_cases z:j<cs.length
  case neg=>have Ut:¬((j:Int)<cs.length):=Z;obtain rfl:j=cs.length:=Z;refine zS ?_;grind
  have Ut:((j:Int)<cs.length):=Z;obtain⟨x,o,cp,mm,fz,w,zs,g,rfl,hx,hf,nz,hg⟩:=(hv _ _ _ P).at z;have LN:g (o+j)=Q (cs[j]:Nat):=by have:=hg 0 I;rw[nV,j8,j8] at this;rw[this];unfold puC;rw[k9 _ _ z]
  have c5:o+j<mm:=Z;have hX:=A.aX.obj;obtain⟨i1,i2,i3⟩:=QX cs[j] W;have hnt:cs[j]∉cs.take j:=λhm=>by obtain⟨q,hq,e⟩:=jm hm;rw[uF] at hq;rw[ux] at e;have:=(AB Cq).1 e;omega
  have ph1:(vP b (hP h) (cs.take j)).ph cs[j]=1:=(aj hnt).trans i2;have ow1:(vP b (hP h) (cs.take j)).ow cs[j]=(hP h:Nat)+1:=(aj hnt).trans i3;have ew:IntKind.i64.wrap (((hP h:Nat):Int)+1)=(hP h:Nat)+1:=cB Z;simp only[go_sem,e0,e2,e13,e14,e15,Ut,hf,LN,c5,z,hX,ew, ↓ag 315];rw[←ow1];apply(a7l A.re cs[j] i1 ph1 Z).bu;rintro u f2 m2 ⟨rfl,dm,r2,H2,q2⟩;have nR:¬PR 9:=U4;have NC:=A.ue.ah q2 U4;have DM:=A.aX.ah q2 nR;have oX2:=DM.obj;simp only[go_sem,e0,e1,oX2, ↓ag 316];have Up:jj.LV.e ((vP b (hP h) (cs.take j)).acc (hP h)) 1=0:=by have e:(vP b (hP h) (cs.take j)).acc (hP h)=⟨(b.acc (hP h)).c,(b.acc (hP h)).h-(cs.take j).length,(b.acc (hP h)).r⟩:=dQ ..;rw[e];unfold qk at hR0;rw[uF,FL Z];exact adh (by show 1<=(b.acc (hP h)).c/\(b.acc (hP h)).c<=1048576/\0<=(b.acc (hP h)).h-(j:Nat)/\0<=(b.acc (hP h)).r/\(b.acc (hP h)).h-(j:Nat)+(b.acc (hP h)).r<=(b.acc (hP h)).c;omega) G W
  apply(Yx NC h hh hc 1).bu;rintro u f3 m3 ⟨rfl,⟨la,hl3⟩,p,_⟩;rw[Up];have C:IntKind.i64.wrap ((j:Int)+1)=((j+1:Nat):Int):=Qf;have hsn:=a1s b (hP h) (cs.take j) cs[j] Up;have htk:cs.take (j+1)=cs.take j++ [cs[j]]:=jr z;simp only[go_sem,e15,C];refine lR (rem-1) _ _ _ Z ⟨j+1,dm,{a1 with la:=la,r:=r2},Z,Z,?_,(P.trans q2 (λ_ h=>h) (λ_ h=>.inl h)).trans p (λ_ h=>h) (λ_ h=>.inr h),E6,E6,E6,E6,E6,E6⟩;rw[htk,hsn];have n32:∀c,PR c->c≠32:=λc h=>W3;have eS:r2.S=a1.r.S:=A.re.sEq H2 (q2.ah _ A.re.aC.lt (by rw[A.re.aC.own];trivial));have M:=DM.ah p I;rw[←eS] at M;exact⟨M,hl3,H2.ah p n32 I I,(A.bk.ah q2 U4).ah p I,(A.qu.ah q2 U4).ah p I,(A.pu.ah q2 U4 (λc _ _=>U4)).ah p I Z⟩
 .rintro e f1 l h1;simp only[go_sem];grind
end
@[grind] def PGv(c:Nat):Prop:=PUp c\/c=40
section
variable {own:aG} {f:av} {m X aEY N d:Nat} {b:Bs} {a:nC}
def a5v{R:Rt}(H:cY own f m X b aEY N d a)(h n:Int)(g:h<=9223372036854775807)(hl:∀p,(b.pu p).length<=64)(hK:aEY+64<1048575)
  (Cq:∀p,(b.pu p).Nodup) (hpu:∀p,∀i∈b.pu p,i<b.n/\b.ph i=1/\b.ow i=(p:Nat)+1) (s:∀p,b.op p=true->((b.pu p).length:Int)<=(b.acc p).h):
  Cl R.Y.Y.Y.Y.Y.Y.Y.Y.Y.Y.Y 149 [.ptr X 0,Q h,Q n] f m (λu y L=>(∃e:Int,e≠0/\u=Q e/\B f m y L)\/u=Q 0/\sG b a.q h/\∃k:Nat,n=k/\1<=k/\k<=(b.pu (hP h)).length/\∃t,(∃a',cY t y L X (vP {b with pu:=dE b.pu (hP h) ((b.pu (hP h)).drop k)} (hP h) ((b.pu (hP h)).take k)) (aEY+k) N d a')/\Fr PGv own f m t y L):=by
 intro k S E;refine cUx func149 ?_;simp only[go_sem, ↓ag 207];apply(x6 H h g).bu;rintro v r m1 ⟨⟨e,rfl,he⟩,P⟩;have A:=H.gr P;have hX:=A.aX.obj;have hM:=A.pu.am.obj;by_cases c:e=0
 case neg=>simp only[go_sem,c];exact E _ _ _ (.inl ⟨e,c,rfl,P⟩)
 have F:=he.1 c;have hp:=H.TM F.1.2.1;rw[c,ao F];by_cases c1:n<1
 .refine zS ?_;exact E _ _ _ (.inl ⟨2,I,rfl,P⟩)
 obtain⟨w,l,hs⟩:=Au A (hP h) hp;have hl':=hl (hP h);have tI:=λq=>hs.jD Z q;by_cases c2:((b.pu (hP h)).length:Int)<n
 .refine zS ?_;exact E _ _ _ (.inl ⟨9,I,rfl,P⟩)
 obtain⟨j,rfl⟩:∃j:Nat,n=j:=⟨n.toNat,Z⟩;simp only[go_sem,hX,hM,l,tI,c1,c2, ↓ag 225];apply(MQ A (hP h) hp j Z Z Z).bu;rintro v f2 C ⟨hv,⟨l',ck,H2⟩,o⟩;have aoZ:∀i∈(b.pu (hP h)).take j,i∈b.pu (hP h):=λi hi=>List.mem_of_mem_take hi;have mO:((b.pu (hP h)).take j).length=j:=Xq;simp only[go_sem,hv.live, ↓ag 233];refine(a5r H2 h g F.1 (v:=v) (cs:=(b.pu (hP h)).take j) (λt y L q=>?_) ?_ (λi hi=>hpu _ i (aoZ i hi)) Z ?_).bu ?_
 .rw [mO];exact(hv.ah q W).uf
 .exact (Cq (hP h)).sublist (List.take_sublist ..)
 .rw [mO];have:=s (hP h) F.1.2.1;show(j:Int)<=(b.acc (hP h)).h;omega
 rintro u f3 m3 ⟨rfl,g9,⟨a3,x⟩,q3⟩;rw[mO] at x;have M:=x.aX.obj;simp only[go_sem,M, ↓ag 234];apply(a2q x.re (hP h) hp j Z).bu;rintro u f4 m4 ⟨rfl,z,q4⟩;refine zS ?_;exact E _ _ _ (.inr ⟨rfl,F,j,rfl,Z,Z,g9,⟨a3,⟨x.aX.ah q4 I,x.ue.ah q4 I,z,x.bk.ah q4 I,x.qu.ah q4 I,x.pu.ah q4 I (λc _ _=>Z)⟩⟩,(((P.fr own PGv).trans o (λ_ h=>h) (λ_ h=>.inr h)).trans q3 (λ_ h=>h) (λ_ h=>.inl h)).trans q4 (λ_ h=>h) (λc h=>.inl (.inl W))⟩)
end
section
variable {own:aG} {f:av} {m X aEY N d:Nat} {b:Bs} {a:nC}
def a0h{R:Rt}(H:cY own f m X b aEY N d a)(h:Int)(hh:h<=9223372036854775807)(hl:∀p,(b.pu p).length<=64){v:V}{cs:aI}
  (hv:∀t f' L,Fr PUp own f m t f' L->i7 f' L 3 1 v cs.length (puC cs)) (Cq:cs.Nodup) (QX:∀i∈cs,i<b.n/\b.ph i=1/\b.ow i=(hP h:Nat)+1/\i∉b.pu (hP h)) (hK:aEY+64<1048575) (hb:b.op (hP h)=true->(cs.length:Int)<=(b.acc (hP h)).h):
  Cl R.Y.Y.Y.Y.Y.Y.Y.Y.Y.Y.Y 148 [.ptr X 0,Q h,v] f m (λu f' L=>(∃e:Int,e≠0/\¬sG b a.q h/\u=Q e/\B f m f' L)\/u=Q 0/\sG b a.q h/\∃t,(∃a',cY t f' L X (vP b (hP h) cs) (aEY+cs.length) N d a')/\Fr PUp own f m t f' L):=by
 intro k T hk;have hI:=hv _ _ _ (Fr.refl ..);obtain⟨t1,t2,t3,t4⟩:=bV hI;have zy:cs.length<=64:=cL (dg Cq (λi hi=>(QX i hi).1)) H.re.st.s.n1;have tI:=λq=>hI.jD Z q;refine cUx func148 ?_;simp only[go_sem, ↓ag 207];apply(x6 H h hh).bu;rintro u r m1 ⟨⟨e,rfl,he⟩,P⟩;by_cases c:e=0
 case neg=>simp only[go_sem,c];exact hk _ _ _ (.inl ⟨e,c,λh=>c (he.2 h),rfl,P⟩)
 have hc:=he.1 c;have hp:=H.TM hc.1.2.1;have A:=H.gr P;rw[c,ao hc];have ew:IntKind.i64.wrap (((hP h:Nat):Int)+1)=(hP h:Nat)+1:=cB Z;refine zS ?_;refine uV ?_;intro F hF;have qF:B r m1 F (pl m1 1):=by rw[hF];exact(B.w (m2:=m1) Qe E1)
 have hm0:F m1= .map [] 0:=O2;refine cU (x:=.exit 0) (n:=cs.length+1) (aF0:=λrem e f' L=>∃(j:Nat) (l:List (Int×V×Nat)) (ck:Nat),j+rem=cs.length+1/\1<=rem/\B r m1 f' L/\m1<L/\f' m1= .map (enc l) ck/\(∀x:Nat,cC l x=if x∈cs.take j then some (.bool true) else none)/\(eg 0).get e= .ptr X 0/\(eg 1).get e=Q h/\(eg 2).get e=v/\(eg 7).get e=Q (hP h:Nat)/\(eg 9).get e= .map m1/\(eg 24).get e=v/\(eg 25).get e=Q cs.length/\(eg 26).get e=Q j)
  (E:=λe f' L=>B r m1 f' L/\(eg 0).get e= .ptr X 0/\(eg 1).get e=Q h/\(eg 2).get e=v/\(eg 7).get e=Q (hP h:Nat)) ?_ J2 ?_ ?_
 .exact ⟨0,[],0,Z,Z,qF,W,hm0,λx=>(aj J1).symm,E6,E6,E6,E6,E6,E6,E6,E6⟩
 .rintro rem e f2 C ⟨j,l,ck,hjr,Hy,q2,lm,hm,hg,e0,e1,e2,e7,e9,e24,e25,e26⟩ rr kx lR hE;unfold iB;by_cases z:j<cs.length
  case neg=>have Ut:¬((j:Int)<cs.length):=Z;simp only[go_sem,e25,e26,Ut];exact hE _ _ _ ⟨q2,e0,e1,e2,e7⟩
  have Ut:((j:Int)<cs.length):=Z;obtain⟨x,o,cp,mm,fz,w,zs,g,rfl,hx,hf,nz,hgx⟩:=(hv _ _ _ ((P.trans q2).fr own PUp)).at z;have LN:g (o+j)=Q (cs[j]:Nat):=by have:=hgx 0 I;rw[nV,j8,j8] at this;rw[this];unfold puC;rw[k9 _ _ z]
  have c5:o+j<mm:=Z;have H2:=A.gr q2;have hX:=H2.aX.obj;obtain⟨i1,i2,i3,i4⟩:=QX cs[j] (eL z);simp only[go_sem,e0,e24,e25,e26,Ut,hf,LN,c5,z,hX, ↓ag 68];apply(vT H2.re.st cs[j] i1 _).bu;rintro u f3 m3 ⟨rfl,q3⟩;have H3:=H2.gr q3;have YP:=H3.aX.obj;have LP:=H3.pu.am.obj;rw[i3];obtain⟨wv,hw,hs⟩:=Au H3 (hP h) hp;have hnt:cs[j]∉cs.take j:=λhm=>by obtain⟨q,hq,e⟩:=jm hm;rw[uF] at hq;rw[ux] at e;have:=(AB Cq).1 e;omega
  have hm3:=(q3.ah m1 lm).trans hm;have hgn:cC l ((cs[j]:Nat):Int)=none:=by rw[hg,aj hnt]
  have QT:ll f3 m3 wv ((b.pu (hP h)).map λ(x:Nat)=>(x:Int)):=hs.toI;have hct:∀(F:av) (M:Nat),B f3 m3 F M->ll F M wv ((b.pu (hP h)).map λ(x:Nat)=>(x:Int)):=λF M q=>QT.gr q;have hle:=hl (hP h);have l3:=q3.le;have nX:X≠m3:=by have:=H3.aX.lt;omega
  have nM:a.M≠m3:=by have:=H3.pu.am.lt;omega
  have n1:m1≠m3:=Z;have ew2:IntKind.i64.wrap ((j:Int)+1)=((j+1:Nat):Int):=Qf;simp only[go_sem,e0,e7,e9,YP,LP,hw,hs.live,hm3,hgn,nX,nM,n1,ew];refine ld ?_;intro aEZ hG;have qG:B f3 m3 aEZ (pl m3 1):=by rw[hG];exact(B.w (m2:=m3) Qe E1)
  have hC:=ug (hct aEZ _ qG) Y6 (cs[j]:Nat);have hni:decide (((cs[j]:Nat):Int)∈(b.pu (hP h)).map λ(x:Nat)=>(x:Int))=false:=by refine dB λhm=>?_;obtain⟨y,hy,e⟩:=fA.1 hm;have:y=cs[j]:=Z;exact i4 (this▸hy)
  rw[hni] at hC;have hmG:=(qG.ah m1 Z).trans hm3;simp only[go_sem,hC,e9,e26,hmG,ew2];refine lR (rem-1) _ _ _ Z ⟨j+1,eJ l (cs[j]:Nat) (.bool true) ck,im l (cs[j]:Nat) ck,Z,Z,((q2.trans q3).trans qG).bw (bP _),W,aK ..,λy=>?_,E6,E6,E6,E6,E6,E6,E6,E6⟩;rw[dR,hg,jr z];by_cases e:y=cs[j]
  .rw [ao Z,ao (fJ.2 (.inr (rY.2 e)))]
  .rw [aj Z];by_cases e2:y∈cs.take j
   .rw [ao e2,ao (fJ.2 (.inl e2))]
   .rw [aj e2,aj (λh=>(fJ.1 h).elim e2 (λh=>e (rY.1 h)))]
 .rintro e f2 C ⟨q2,e0,e1,e2,e7⟩;have hq:=(P.trans q2).fr own PUp;simp only[go_sem,e0,e1,e2,e7,t1, ↓ag 233];refine(a5r (A.gr q2) h hh hc.1 (v:=v) (cs:=cs) (λt f' L q=>hv t f' L (hq.trans q (λ_ h=>h) (λ_ h=>h))) Cq (λi hi=>by obtain⟨x1,x2,S,_⟩:=QX i hi;exact⟨x1,x2,S⟩) Z (hb hc.1.2.1)).bu ?_;rintro u f3 m3 ⟨rfl,g9,⟨a3,H3⟩,q3⟩;refine zS ?_;exact hk _ _ _ (.inr ⟨rfl,hc,g9,⟨a3,H3⟩,hq.trans q3 (λ_ h=>h) (λ_ h=>h)⟩)
end
end
end Go.Ev.Sy
