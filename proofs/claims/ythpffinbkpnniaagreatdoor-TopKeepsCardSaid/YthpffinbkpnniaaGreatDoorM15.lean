import Derived.Test.YthpffinbkpnniaaGreatDoorM14
set_option linter.all false
set_option maxRecDepth 100000
namespace Go.Ev.Sy
open Go Go.Ev Go.Proofs
open Tryz
noncomputable section
variable{S:Nat}
section
variable {own:aG} {f:av} {m C n sz aEY qt:Nat} {ph:aG} {ow ge:dc} {xs ws:aI} {tk:Int} {a:Nm}
def a2n(H:ji own f m C n sz aEY qt ph ow ge xs ws tk a)(i:Int):∃x:Int,x<=9223372036854775807/\∀(R:Rt) (L:Nat) (k:cR),R.Y.Y.call 247 [.ptr C 0,Q i] (.fn f L) k=k (Q x) (.fn f L):=by have E:=H.aC.obj;have F:=Br H;obtain⟨x,s,S⟩:=a1u H.tr i;refine⟨x,s,λR L k=>?_⟩;refine cUx func247 ?_;exact zC
def yK{R:Rt}(H:ji own f m C n sz aEY qt ph ow ge xs ws tk a):
  Cl R.Y.Y.Y.Y.Y.Y.Y 42 [.ptr C 0] f m (λv y L=>B f m y L/\ll y L v (ws.map λ(x:Nat)=>(x:Int))/\Nw m v):=by
 intro k S c;have E:=H.aC.obj;have F:=Br H;refine cUx func42 ?_;simp only[go_sem,F,E, ↓ag 69];apply(Yo H.ln).bu;rintro v r d ⟨P,h,l⟩;have b:=h.bC;simp only[go_sem,bN b];grind
def a2q{R:Rt}(H:ji own f m C n sz aEY qt ph ow ge xs ws tk a)(i:Nat)(F:i<64)(x:Int)(S:0<=x):
  Cl R.Y.Y 234 [.ptr C 0,Q i,Q x] f m (λv y L=>v=Q 0/\ji own y L C n sz aEY qt ph ow ge xs ws tk a/\Fr (· =29) own f m own y L):=by
 intro k d b;have E:=H.aC.obj;have c:=Br H;refine cUx func234 ?_;simp only[go_sem,c,E, ↓ag 317];apply(a1v H.tr i F x S).bu;rintro v r l ⟨rfl,o,q⟩;refine zS ?_;exact b _ _ _ ⟨rfl,⟨H.aC.ah q I,o,H.st.ah q W I I,H.ln.ah q I,H.nx,H.wa.ah q I,H.ct.ah q I,H.rc,H.tk,H.ws,H.no3,H.q1,H.q2⟩,q⟩
def WI{R:Rt}(H:ji own f m C n sz aEY qt ph ow ge xs ws tk a):
  Cl R.Y.Y.Y.Y.Y.Y.Y 40 [.ptr C 0] f m (λv y L=>v=Q tk/\∃t,ji t y L C n sz aEY qt ph ow ge xs ws tk a/\Fr (· =31) own f m t y L):=by
 intro k S d;have E:=H.aC.obj;have c:=Br H;refine cUx func40 ?_;simp only[go_sem,c,E, ↓ag 66];apply(ZW H.ct 0 I).bu;rintro v r l ⟨rfl,b,F,q⟩;refine zS ?_;rw[H.tk];exact d _ _ _ ⟨rfl,b,⟨H.aC.ah q I,H.tr.ah q I,H.st.ah q W I I,H.ln.ah q I,H.nx,H.wa.ah q I,F,H.rc,H.tk,H.ws,H.no3,H.q1,H.q2⟩,q⟩
def Tg{R:Rt}{A:SL}(H:i9 own f m S n sz aEY ph ow ge xs A):
  Cl R.Y 243 [.ptr S 0] f m (λv y L=>v= .agg [Q (mQ n ph 0),Q (mQ n ph 1),Q (mQ n ph 2),Q (mQ n ph 3)]/\B f m y L):=by
 intro k a E;have P:=H.s.aS.obj;have b:=H.s.g4 0 I;have c:=H.s.g4 1 I;have N:=H.s.g4 2 I;have M:=H.s.g4 3 I;have u:S≠m:=by have:=H.s.aS.lt;omega
 refine cUx func243 ?_;refine zS ?_;exact E _ _ _ ⟨rfl,(B.w (m2:=m) Qc E1)⟩
end
end
end Go.Ev.Sy
namespace Go.Ev.Sy
open Go Go.Ev Go.Proofs
noncomputable section
variable{i:Nat}
section
variable {own:aG} {f:av} {m C n sz aEY qt:Nat} {ph:aG} {ow ge:dc} {xs ws:aI} {tk:Int} {a:Nm}
def ji.ag5{g:aG}{d N:av}{s:Nat}{la:FC}{c:SL}(H:ji own f m C n sz aEY qt ph ow ge xs (i::ws) tk a)(hl:kA own d m a.L n ws la)(r:la.nx=a.la.nx)(o:Fr (· =5) own f m own d m)
  (M:i9 g N s a.S n sz (aEY+2) (ib ph i 0) ow (eH ge i (ge i+1)) (xs++ [i]) c) (p:Fr PS own d m g N s):
  ji g N s C n sz (aEY+2) qt (ib ph i 0) ow (eH ge i (ge i+1)) (xs++ [i]) ws tk {a with A:=c,la:=la}:=by
 have u:¬PS 5:=W;have w:¬PS 9:=W;have b:¬PS 28:=W;have h:¬PS 29:=W;have k:¬PS 31:=W;have x:=iK.1 H.ln.nd;have q:=H.nx;have l:=(H.ws i).1 W;refine⟨(H.aC.ah o I).ah p w,(H.tr.ah o I).ah p h,M,hl.ah p u,W,((H.wa.ah o I).ah p b).up Z,(H.ct.ah o I).ah p k,λj=>Xh,H.tk,λj=>?_,λj z=>?_,H.q1,H.q2⟩
 .have:=H.ws j;by_cases e:j=i
  .subst e;rw[dP];grind
  .rw [eU e,←this];grind
 .by_cases e:j=i
  .subst e;rw[dP];decide
  .rw [eU e];exact H.no3 j z
structure RS where
 ph:aG
 ge:dc
 xs:aI
 ws:aI
def RS.FY(s:RS):RS:=match s.ws with
 |[]=>s
 |i::ws=>⟨ib s.ph i 0,eH s.ge i (s.ge i+1),s.xs++ [i],ws⟩
def RS.turns(j:Nat)(s:RS):RS:=match j with|0=>s|j+1=>(RS.turns j s).FY
def RS.AM(j:Nat)(s:RS):(RS.turns j s).ws=s.ws.drop j:=by
 induction j with
 |zero=>rfl
 |succ j H=>
  show(RS.FY (RS.turns j s)).ws=_;unfold RS.FY;cases h:(RS.turns j s).ws with
  |nil=>rw[H] at h;simp only[];rw[H,h,←NI,h];rfl
  |cons i ws=>rw[H] at h;show ws=_;rw[←NI,h];rfl
end
end
end Go.Ev.Sy
namespace Go.Ev.Sy
open Go Go.Ev Go.Proofs
open Tryz
noncomputable section
variable{i j l p:Nat}
section
variable {own:aG} {f:av} {m C n sz aEY qt:Nat} {ow:dc} {tk:Int} {a:Nm} {s:RS}
def RJ(own:aG)(f:av)(m C n sz aEY qt:Nat)(ow:dc)(tk:Int)(s:RS):Prop:=∃a,ji own f m C n sz aEY qt s.ph ow s.ge s.xs s.ws tk a
@[grind] def PD(c:Nat):Prop:=PR c\/c=3\/c=4
def RS.OA{s:RS}{p:aI}(h:(s.turns j).ws=i::p):s.turns (j+1)=⟨ib (s.turns j).ph i 0,eH (s.turns j).ge i ((s.turns j).ge i+1),(s.turns j).xs++ [i],p⟩:=by show RS.FY (s.turns j)=_;unfold RS.FY;grind
def Gx{R:Rt}(hK:aEY+2*s.ws.length<1048574)(hpo:(own p≠3/\own p≠4)/\¬PR (own p))(hpm:p<m)(hp:f p=(.row 125 1 0 true [.bg] (.cf (bI [.ptr C 0]))))(H:RJ own f m C n sz aEY qt ow tk s)
  (X:Nat->aG->av->dF)
  (w:∀j own f m t y L,X j own f m->Fr PR own f m t y L->X j t y L)
  (h0:X 0 own f m)
  (hy:∀j own f m,(hj:j<s.ws.length)->X j own f m->Rd R.Y.Y.Y.Y.Y.Y.Y.Y.Y l [Q (s.ws[j]:Nat),Q 0] f m (λb y L=>b=true/\∃t,X (j+1) t y L/\Fr (λc=>c=3\/c=4) own f m t y L)):
  Cl R.Y.Y.Y.Y.Y.Y.Y.Y.Y.Y 377 [.yield l,.ptr p 0] f m (λ_ y L=>∃t,RJ t y L C n sz (aEY+2*min qt s.ws.length) qt ow tk (s.turns (min qt s.ws.length))/\X (min qt s.ws.length) t y L/\Fr PD own f m t y L):=by
 intro k T hk;obtain⟨a,H⟩:=H;have hC:=H.aC.obj;have hq1:=H.q1;have hq2:=H.q2;refine cUx func377 ?_;refine zS ?_;have hws:s.ws.length<=64:=cL (dg H.ln.nd (λx S=>((H.ws x).1 S).1)) H.st.s.n1;refine kW (n:=s.ws.length+1) (aF0:=λr e y L=>∃(j:Nat) (t:aG),j+r=s.ws.length+1/\1<=r/\j<=qt/\(eg 0).get e= .yield l/\(eg 1).get e= .ptr p 0/\(eg 8).get e=Q qt/\(eg 9).get e=Q j/\RJ t y L C n sz (aEY+2*j) qt ow tk (s.turns j)/\X j t y L/\Fr PD own f m t y L)
  (E:=λx e y L=>(x= .exit 0\/x= .ret)/\∃t,RJ t y L C n sz (aEY+2*min qt s.ws.length) qt ow tk (s.turns (min qt s.ws.length))/\X (min qt s.ws.length) t y L/\Fr PD own f m t y L) ?_ J2 ?_ ?_
 .exact ⟨0,own,Z,Z,Z,E6,E6,E6,E6,⟨a,H⟩,h0,Fr.refl _ _ _ _⟩
 .rintro r e f1 m1 ⟨j,bX,hjr,Hy,hjq,e0,u,e8,e9,⟨a1,A⟩,Ny,P⟩ rr kx hr hE;unfold iB;have M:f1 p=(.row 125 1 0 true [.bg] (.cf (bI [.ptr C 0]))):=by rw[P.ah p hpm (λh=>by unfold PD at h;grind)];exact hp
  have hC1:=A.aC.obj;have htw:=RS.AM j s;by_cases mO:j<qt
  .have c1:(j:Int)<qt:=by omega
   by_cases hlw:j<s.ws.length
   .have hdr:(s.turns j).ws=s.ws[j]::s.ws.drop (j+1):=by rw[htw,Og hlw]
    have H2:=A;rw[hdr] at H2;simp only[go_sem,u,e8,e9,c1,M,hC1, ↓ag 378];apply(Yn H2.ln).bu;rintro v d m2 ⟨rfl,rfl,⟨la,hl,hla⟩,o⟩;have ape:bX p=own p:=P.same p hpm;have QR:d p=(.row 125 1 0 true [.bg] (.cf (bI [.ptr C 0]))):=by rw[o.ah p (bW hpm P.le) (by rw[ape];exact λh=>hpo.2 (.inr (.inl h)))];exact M
    have C2:=A.aC.ah o I;have QT:=(H2.ws s.ws[j]).1 W;have hge:=A.st.ge _ QT.1;have st2:=A.st.ah o (λc F h=>by unfold PS at F;omega) I I;simp only[go_sem,e0,u,QR, ↓ag 379];apply(a2m C2 st2 s.ws[j] Z Z Z Z).bu;rintro v N m3 ⟨rfl,g,A3,st3,q3⟩;have H3:=H2.ag5 hl hla o st3 q3;have WK:Fr PR bX f1 m2 g N m3:=o.trans q3 (λc h=>.inr (.inl h)) (λc h=>.inl h);have hx3:=w j bX f1 _ g N m3 Ny WK;have ew:IntKind.i64.wrap ((j:Int)+1)=((j+1:Nat):Int):=Qf;refine zS ?_;refine hy j g N m3 hlw hx3 _ _ ?_;rintro b f4 m4 ⟨rfl,cS,Cm,i⟩;refine zS ?_;refine hr (r-1) _ _ _ Z ⟨j+1,cS,Z,Z,Z,E6,E6,E6,E6,?_,Cm,(P.trans WK (λ_ h=>h) (λ_ h=>.inl h)).trans i (λ_ h=>h) (λ_ h=>.inr h)⟩;have z:=H3.ah i (λc F h=>by unfold PR PS at F;omega) I I;rw[RS.OA hdr,show aEY+2*(j+1)=aEY+2*j+2 by omega];exact⟨_,z⟩
   .have a8s:(s.turns j).ws= []:=by rw[htw];exact W
    have H2:=A;rw[a8s] at H2;have ht:=BR H2.ln;refine zS ?_;have em:min qt s.ws.length=j:=Z;refine hE _ _ _ _ ⟨W,bX,?_,?_,P⟩<;>rw[em]
    .exact ⟨a1,A⟩
    trivial
  .have c1:¬((j:Int)<qt):=by omega
   refine zS ?_;have em:min qt s.ws.length=j:=Z;refine hE _ _ _ _ ⟨W,bX,?_,?_,P⟩<;>rw[em]
   .exact ⟨a1,A⟩
   trivial
 .rintro x e y L ⟨S,h⟩;rcases S with rfl|rfl
  .simp only[go_sem];grind
  .simp only[go_sem];grind
end
variable{c m:Nat}{own:aG}{f:av}{xs:ay}{k:cR}
section
variable {own:aG} {f:av} {m C n sz aEY qt:Nat} {ow:dc} {tk:Int} {s:RS}
def JU(f)(R:Rt)(m:Nat)(k):R.Y.call 323 [.ptr p 0] (.fn f m) k=k (.fn 377 [] [.ptr m 0]) (.fn (bw f m (.row 125 1 0 true [.bg] (.cf (bI [.ptr p 0])))) (pl m 1)):=by refine cUx func323 ?_;exact zC
def bS.toI{n:Nat}{v:V}{xs:aI}(h:bS own c f m 3 1 v n (xs.map λ(x:Nat)=>Q x)):ll f m v (xs.map λ(x:Nat)=>(x:Int)):=by
 have F:=h.cells;rw[dT,nV] at F;rcases h.uf with⟨A,N,M⟩|⟨i,o,cp,a,t,w,P,g,A,N,M,u,r,b,y⟩
 .refine .inl ⟨A,?_⟩;have:xs= []:=Xn;subst this;rfl
 .refine .inr ⟨i,o,cp,a,t,w,P,g,W,N,M,by rw[dT,F];omega,λj z=>?_⟩;rw[dT] at z;rw[b j Z,k9 _ _ z,rW]
def ld{R:Rt}{fn:Nat}{T:Bool}(h:∀F,F=f->R.call fn xs (.fn F m) k=T):R.call fn xs (.fn f m) k=T:=W
def a2o{R:Rt}(hK:aEY+2*s.ws.length<1048574)(hz:∀x,m<=x->own x=0)(H:RJ own f m C n sz aEY qt ow tk s){v:V}{is:dC}(hI:ll f m v is)(hl:is.length<=64)(hIo:∀b o q cp,v= .sl b o q cp->own b=0):
  Cl R.Y.Y.Y.Y.Y.Y.Y.Y.Y.Y.Y 240 [.ptr C 0,v] f m (λv' f' L=>∃vs t,v'= .cI [vs,Q 0]/\ll f' L vs ((s.ws.take (min qt s.ws.length)).map λ(x:Nat)=>(x:Int))/\RJ t f' L C n sz (aEY+2*min qt s.ws.length+1) qt ow (tk+1) (s.turns (min qt s.ws.length))/\Fr PD own f m t f' L):=by
 intro k T E;obtain⟨a,H⟩:=H;have hws:s.ws.length<=64:=cL (dg H.ln.nd (λx hx=>((H.ws x).1 hx).1)) H.st.s.n1;have his:=λ(R:Rt) F (e:F C=f C) M k=>(show R.Y.call 65 [.ptr C 0] (.fn F M) k=k (.bool true) (.fn F M) by have hC:=H.aC.obj;rw[←e] at hC;refine cUx func65 ?_;simp only[go_sem,hC]);have hCm:=H.aC.lt;have e1:C≠m:=Z;have e2:C≠pl m 1:=W;have hlen:=hI.jD Z;have hu:=hI.bC;have c1:¬(64:Int)<is.length:=Z;have hd:=JU (p:=C);refine cUx func240 ?_;simp only[go_sem,his,e1,e2,hlen,bN hu,c1,hd];refine sM ?_;intro lo IL;refine ld ?_;intro F hF;have qF:B f m F (pl m 6):=Vy;have q3:Fr (λ_=>False) own f m (cm own m [4,4,4,0,4,4]) F (pl m 6):=Fr.cm (P:=λ_=>False) (qF.fr own _) G;have K0:RJ (cm own m [4,4,4,0,4,4]) F (pl m 6) C n sz aEY qt ow tk s:=⟨a,H.ah q3 (λ_ _ h=>h) id id⟩;have b3:(cm own m [4,4,4,0,4,4]) (pl m 3)=0:=G0;refine(Gx hK (by rw[b3];exact⟨G,W⟩) W O7 K0
  (X:=λj t f' L=>∃vs g,At t 4 f' L m (.row 32 1 0 true [.au] (.cf (zf [.au])))/\At t 4 f' L (pl m 1) (.row 52 1 0 true [.num 0] (.cf (zf [.num 0])))/\At t 4 f' L (pl m 2) (.row 32 1 0 true [.au] (.cf g))/\g 0=vs/\bS t 3 f' L 3 1 vs j ((s.ws.take j).map λ(x:Nat)=>Q x)/\At t 4 f' L (pl m 4) (.sJ (some []))/\At t 4 f' L (pl m 5) lo) ?_ ?_ ?_).go ?_
 .rintro j bX f1 l dm d m2 ⟨vs,g,A,h2,h3,h4,r,h6,y⟩ q;have n3:¬PR 3:=W;have n4:¬PR 4:=W;exact⟨vs,g,A.ah q n4,h2.ah q n4,h3.ah q n4,h4,r.ah q n3,h6.ah q n4,y.ah q n4⟩
 .refine ⟨.au,_,⟨?_,?_,?_⟩,⟨?_,?_,?_⟩,⟨?_,?_,?_⟩,nU _ _,bS.nil,⟨?_,?_,?_⟩,⟨?_,?_,?_⟩⟩
  all_goals first|(unfold pl;omega)|(rw [hF];exact zC;done)|(simp [cm,pl];done)|omega
 .rintro j bX f1 l hj ⟨vs,g,A,h2,h3,h4,r,h6,y⟩;intro k T E;have o7:=y.obj;have o6:=h6.obj;have o3:=h3.obj;have hlv:=r.live;have HC:=r.bt;have m0:=h3.lt;have m7:=y.lt;have e7:pl m 5≠l:=Z;have e3:pl m 2≠l:=Z;have e37:pl m 2≠pl m 5:=W;simp only[go_sem,kL,o7,IL,o3,h4,HC,e37];refine gE ?_;intro F1 IN;have q2:Fr (· =4) bX f1 l bX F1 (pl l 1):=by rw[IN];exact(Fr.w (m2:=l) Wa E1)
  refine dv (r.ah q2 I) (n':=1) rfl (by simp;exact iW _) Z Z ?_;intro v2 dm d m2 xj q4;have k7:d (pl m 5)=F1 (pl m 5):=q4.ah _ (by have:=y.lt;unfold pl at *;omega) (by rw[y.own];decide);have k3:d (pl m 2)=F1 (pl m 2):=q4.ah _ (by have:=h3.lt;unfold pl at *;omega) (by rw[h3.own];decide);rw[IN] at k7 k3;have e35:=e37.symm;simp only[go_sem,e37,e3,e7,o3] at k7 k3;simp only[go_sem,k7,k3,xj.one];have lt5:=y.lt;have kk:∀x,x<l->bX x=4->x≠pl m 5->d x=f1 x:=λx hx ho xl=>by have n1:x≠l:=Z;rw[q4.ah x W Z,IN];exact zC
  have u:∀x,x<l->bX x=4->dm x=4/\x<m2:=λx hx ho=>⟨Vq,U6⟩;have d05:m≠pl m 5:=W;have d02:m≠pl m 2:=W;have d15:pl m 1≠pl m 5:=W;have d12:pl m 1≠pl m 2:=W;have d45:pl m 4≠pl m 5:=W;have d42:pl m 4≠pl m 2:=W;have q5:∀o o',Fr (· =4) dm d m2 dm (bw (bw d (pl m 2) o) (pl m 5) o') m2:=λo o'=>((Fr.refl _ dm d m2).bw (λ_=>(u _ h3.lt h3.own).1)).bw (λ_=>(u _ y.lt y.own).1);have q6:=(q2.trans q4 (S:=λc=>c=3\/c=4) Z Z).trans (q5 (.row 32 1 0 true [.au] (.cf (cy g 0 v2))) lo) (λ_ h=>h) (λ_ h=>.inr h);have hs5:=xj.ah (q5 (.row 32 1 0 true [.au] (.cf (cy g 0 v2))) lo) I;rw[IL] at hs5 q6;refine E _ _ _ ⟨rfl,dm,⟨v2,cy g 0 v2,⟨?_,(u _ A.lt A.own).1,(u _ A.lt A.own).2⟩,⟨?_,(u _ h2.lt h2.own).1,(u _ h2.lt h2.own).2⟩,⟨?_,(u _ h3.lt h3.own).1,(u _ h3.lt h3.own).2⟩,G,?_,⟨?_,(u _ h6.lt h6.own).1,(u _ h6.lt h6.own).2⟩,⟨?_,(u _ y.lt y.own).1,(u _ y.lt y.own).2⟩⟩,q6⟩
  .rw [aE d05,aE d02,kk _ A.lt A.own d05];exact A.obj
  .rw [aE d15,aE d12,kk _ h2.lt h2.own d15];exact h2.obj
  .rw [aE e37];exact aK ..
  .rw [jr hj,iH];trivial
  .rw [aE d45,aE d42,kk _ h6.lt h6.own d45];trivial
  .rw [IL];exact aK ..
 .rintro v1 d m2 ⟨dm,⟨a2,H2⟩,⟨vs,g,A,h2,h3,h4,r,h6,y⟩,q4⟩;obtain⟨N,hN⟩:∃N,N=min qt s.ws.length:=W;rw[←hN] at H2 r;have o7:=y.obj;have o6:=h6.obj;have o3:=h3.obj;have hlv:=r.live;have HC:=r.bt;have hC2:=H2.aC.obj;have d45:pl m 4≠pl m 5:=W;have d25:pl m 2≠pl m 5:=W;have dC5:C≠pl m 5:=W;simp only[go_sem,o7,IL,hC2,dC5, ↓ag 324];refine aP ?_;intro F3 tW;have q5:Fr (· =4) dm d m2 dm F3 m2:=by rw[tW];exact(Fr.w (m2:=m2) Wa Z)
  have g0:F3 m=d m:=Vn;have g1:F3 (pl m 1)=d (pl m 1):=Vn;have g2:F3 (pl m 2)=d (pl m 2):=by rw[tW];exact aE d25 ..
  have A0:At dm 4 F3 m2 m _:=⟨g0.trans A.obj,A.own,A.lt⟩;have A1:At dm 4 F3 m2 (pl m 1) _:=⟨g1.trans h2.obj,h2.own,h2.lt⟩;have A2:At dm 4 F3 m2 (pl m 2) _:=⟨g2.trans h3.obj,h3.own,h3.lt⟩;have A4:At dm 4 F3 m2 (pl m 4) _:=⟨(by rw[tW];exact aE d45 .. :F3 (pl m 4)=d (pl m 4)).trans h6.obj,h6.own,h6.lt⟩;have s3:=r.ah q5 I;have n4:∀c,PR c->¬c=4:=λc hc h=>by unfold PR PS at hc;omega
  have R3:=H2.ah q5 n4 I I;have rc0:=R3.rc 0;apply(yt R3.ct 0 I 1 I Z Z).bu;rintro v3 f4 m4 ⟨rfl,cS,ct4,q6⟩;have B0:=A0.ah q6 I;have B1:=A1.ah q6 I;have B2:=A2.ah q6 I;have s4:=s3.ah q6 I;have C4:=(R3.aC.ah q6 I).obj;have b2:=B2.obj;have aAj:N<=64:=Z;have hl4:=s4.jD Z;have hv4:=s4.live;have Ul:=s4.bt;simp only[go_sem,C4,b2,h4,hl4,Ul, ↓ag 324];have rc1:=R3.rc 1;apply(yt ct4 1 I N Z (by rw[cJ I];omega) (by rw[cJ I];omega)).bu;rintro v5 f5 m5 ⟨rfl,fQ,ct5,q7⟩;have q67:=q6.trans q7 (S:=(· =31)) Z Z;have B05:=B0.ah q7 I;have B15:=B1.ah q7 I;have B25:=B2.ah q7 I;have s5:=s4.ah q7 I;have C5:=(R3.aC.ah q67 I).obj;have aoi:∀c,PS c->¬c=31:=λc hc h=>M6;have st5:=R3.st.ah q67 aoi I I;have b25:=B25.obj;simp only[go_sem,C5, ↓ag 243];apply(Tg st5).bu;rintro v6 f6 m6 ⟨rfl,q8⟩;have C6:=((R3.aC.ah q67 I).gr q8).obj;have b26:=(B25.gr q8).obj;simp only[go_sem,C6, ↓ag 325];have q8':=λP=>q8.fr fQ P;have W6:=(R3.wa.ah q67 I).ah (q8' (λ_=>False)) id;have hcn:=US n (RS.turns N s).ph 0;have aia:=R3.st.s.n1;apply(a1p W6 Z _ Z).bu;rintro v7 f7 m7 ⟨⟨e7,rfl⟩,W7,q9⟩;have C7a:=((R3.aC.ah q67 I).gr q8).ah q9 I;have C7:=C7a.obj;have b27:=((B25.gr q8).ah q9 I).obj;obtain⟨el,hel,hlk⟩:=a1o W7;have T7:=((R3.tr.ah q67 I).ah (q8' (λ_=>False)) id).ah q9 I;have hvs:=s5.tR;simp only[go_sem,C7,b27,h4,hlk,Ul,bN hu,hvs, ↓ag 326];have qT:Fr PD (cm own m [4,4,4,0,4,4]) F (pl m 6) fQ f7 m7:=(((q4.trans q5 (λ_ h=>h) (λ_ h=>.inr (.inr h))).trans q67 (λ_ h=>h) (λ_ h=>.inl W)).trans (q8' (λ_=>False)) (λ_ h=>h) (λ_ h=>h.elim)).trans q9 (λ_ h=>h) (λ_ h=>.inl W);have Uz:∀b o q cp,v= .sl b o q cp->b<m:=λb o q cp e=>by
   rcases hI with⟨h,_⟩|⟨i,o',c',mm,fz,w,z,gg,h,mO,_⟩
   .grind
   grind
  have hbo:∀b o q cp,v= .sl b o q cp->(cm own m [4,4,4,0,4,4]) b=0:=λb o q cp e=>by have:=Uz b o q cp e;unfold cm;grind
  have hI7:=(hI.gr qF).frv qT (λb o q cp e=>by rw[hbo b o q cp e];unfold PD PR PS;omega);apply(a6L T7 el Z hI7 hl (λb o q cp e=>by rw[qT.same b (by have:=Uz b o q cp e;unfold pl;omega),hbo b o q cp e];decide)).bu;rintro v8 f8 m8 ⟨rfl,T8,IG⟩;have b08:=((((B05.gr q8).ah q9 I).ah IG I)).obj;have b18:=((((B15.gr q8).ah q9 I).ah IG I)).obj;have m10:m≠pl m 1:=W;have b28:=((((B25.gr q8).ah q9 I).ah IG I)).obj;have C8:=(C7a.ah IG I).obj;have b48:=(((((A4.ah q6 I).ah q7 I).gr q8).ah q9 I).ah IG I).obj;have hvo:=s5.one;have m14:pl m 4≠m:=W;have m15:pl m 4≠pl m 1:=W;refine zS ?_;refine fG ?_;intro F9 hF9;have B09:=(((B05.gr q8).ah q9 I).ah IG I);have B19:=(((B15.gr q8).ah q9 I).ah IG I);have B49:=(((((A4.ah q6 I).ah q7 I).gr q8).ah q9 I).ah IG I);have q11:Fr (· =4) fQ f8 m8 fQ F9 m8:=by rw[hF9];exact(((Fr.refl _ fQ f8 m8).bw (λ_=>B09.own)).bw (λ_=>B19.own)).bw (λ_=>B49.own)
  have s9:=(((s5.ah (q8' (λ_=>False)) id).ah q9 I).ah IG I).ah q11 I;have n28:∀c,PS c->¬c=28:=λc hc h=>M6;have n29:∀c,PS c->¬c=29:=λc hc h=>M6;have n4':∀c,PS c->¬c=4:=λc hc h=>M6;have R9:ji fQ F9 m8 C n sz (aEY+2*N+1) qt (s.turns N).ph ow (s.turns N).ge (s.turns N).xs (s.turns N).ws (tk+1) {a2 with rc:=eH (eH a2.rc 0 (a2.rc 0+1)) 1 (a2.rc 1+N)}:=by
   have L9:=((((R3.ln.ah q67 I).ah (q8' (λ_=>False)) id).ah q9 I).ah IG I).ah q11 I;have S9:=(((((st5.ah W (λ_ _ h=>h) id id).ah q9 n28 I I).ah IG n29 I I).ah q11 n4' I I).up (show aEY+2*N<=aEY+2*N+1 by omega));have Q9:=(((ct5.ah (q8' (λ_=>False)) id).ah q9 I).ah IG I).ah q11 I;rw[cJ I] at Q9;refine⟨(C7a.ah IG I).ah q11 I,T8.ah q11 I,S9,L9,by have:=R3.nx;grind,(W7.ah IG I).ah q11 I,Q9,λj=>?_,?_,R3.ws,R3.no3,R3.q1,R3.q2⟩
   .have hj:=R3.rc j;show 0<=eH (eH a2.rc 0 (a2.rc 0+1)) 1 (a2.rc 1+N) j/\eH (eH a2.rc 0 (a2.rc 0+1)) 1 (a2.rc 1+N) j<=_;by_cases j1:j=1
    .subst j1;rw[dk];omega
    .rw [cJ j1];by_cases j0:j=0
     .subst j0;rw[dk];omega
     .rw [cJ j0];omega
   .show eH (eH a2.rc 0 (a2.rc 0+1)) 1 (a2.rc 1+N) 0=tk+1;rw[cJ I,dk,R3.tk]
  have qFF:=q3.trans ((qT.trans IG (λ_ h=>h) (λ_ h=>.inl W)).trans q11 (λ_ h=>h) (λ_ h=>.inr (.inr h))) (S:=PD) (λ_ h=>h.elim) (λ_ h=>h);rw[←hN] at E;exact E _ _ _ ⟨vs,fQ,rfl,s9.toI,⟨_,R9⟩,qFF⟩
end
def a0X(v)(j:Nat):zf [v,v] j=v:=by show([v,v][j%2]?).getD .undef=v;grind
def a1D(own f)(m:Nat)(R:Rt)(n:Nat)(N:n<=64):
  Cl R.Y 107 [Q n] f m (λv y L=>∃aF1 t a,v= .ptr aF1 0/\jB t y L aF1 n (λ_=>0) (λ_=>0) a/\Fr (λ_=>False) own f m t y L):=by
 intro k S E;have c1:¬(n:Int)<0:=Z;have c2:¬(1048576:Int)<n:=Z;have d1:n<=4294967296:=Z;have d2:16*n<=281474976710656:=Z;have d3:(0:Int)<=(n:Nat):=Z;refine cUx func107 ?_;refine zS ?_;refine fG ?_;intro F j;have p:Fr (λ_=>False) own f m (cm own m [1,1,1]) F (pl m 3):=by refine Fr.cm (P:=λ_=>False) ?_ G;rw[j];exact B.fr (B.w (m2:=m) Qd E1) _ _
 have s:(V.num 0)=Q 0:=G;exact E _ _ _ ⟨pl m 2,_,⟨m,pl m 1,[],0,zf [.num 0,.num 0]⟩,rfl,⟨gh J3 rfl G,ez Q0 rfl G,gh Y0 rfl G,λx v h=>Q8,Wf.nil _,Z,λi _=>(a0X _ _).trans s,λi _=>(a0X _ _).trans s⟩,p⟩
def Fp(own)(c:Nat)(f)(m:Nat)(R:Rt)(n:Nat)(A:1<=n)(N:n<=64):
  Cl R.Y 109 [Q n] f m (λv y L=>∃aF1 t,v= .ptr aF1 0/\gZ t c y L aF1 n (λ_=>0)/\Fr (λ_=>False) own f m t y L):=by
 intro k S E;have c1:¬(n:Int)<1:=Z;have c2:¬(64:Int)<n:=Z;refine cUx func109 ?_;refine zS ?_;refine fG ?_;intro F j;have p:Fr (λ_=>False) own f m (cm own m [c]) F (pl m 1):=by refine Fr.cm (P:=λ_=>False) ?_ (bP _);rw[j];exact B.fr (B.w (m2:=m) Qc E1) _ _
 exact E _ _ _ ⟨m,_,rfl,⟨Z,N,.inl ⟨ez J3 rfl (bP _),λ_ _=>rfl⟩⟩,p⟩
def a5C(own)(c:Nat)(f)(m:Nat)(R:Rt)(n:Nat)(A:1<=n)(N:n<=64):
  Cl R.Y 176 [Q n] f m (λv y L=>∃S t a w z g,v= .ptr S 0/\jX t c y L S n (λ_=>false) a w z g/\Fr (λ_=>False) own f m t y L):=by
 intro k b E;have c1:¬(n:Int)<0:=Z;have c2:¬(1048576:Int)<n:=Z;have d:IntKind.i64.wrap ((n:Int)+64)=((n+64:Nat):Int):=Qf;have u:IntKind.i64.wrap (((n+64:Nat):Int)-1)=((n+63:Nat):Int):=Ql;have e:IntKind.i64.wrap (((n+63:Nat):Int).tdiv 64)=1:=by
  have:((n+63:Nat):Int).tdiv 64=1:=by show(((n+63)/64:Nat):Int)=1;omega
  rw[this];decide
 refine cUx func176 ?_;refine zS ?_;refine fG ?_;intro F j;have p:Fr (λ_=>False) own f m (cm own m [c,c]) F (pl m 2):=by refine Fr.cm (P:=λ_=>False) ?_ (bP _);rw[j];exact B.fr (B.w (m2:=m) Qd E1) _ _
 have o:F m= .row 407 1 0 true [.ik .u64 0] (.cf (zf [.ik .u64 0])):=Q0;refine E _ _ _ ⟨pl m 1,_,m,0,_,_,rfl,⟨gh J3 rfl (bP _),rfl,rfl,⟨_,ez o rfl (bP _),G⟩,I,N,G⟩,p⟩
def bdx(x y:Operand):fy:=bZ λe q=>V.one ((ax x).get e) λv=>V.one ((ax y).get e) λw=>q (.agg [w,v])
@[go_sem ↓]def awu(x y:Operand)(R e h k):(bdx x y).run R e h k=V.one ((ax x).get e) λv=>V.one ((ax y).get e) λw=>k (.agg [w,v]) h:=G
@[go_sem ↓]def amC(x y:Operand):bJ K 459 [(1,x),(0,y)]=bdx x y:=G
def Wq(own f)(m:Nat)(R:Rt)(n:Nat)(A:1<=n)(N:n<=64):
  Cl R.Y 175 [Q n] f m (λv y L=>∃T t a g,v= .ptr T 0/\jO t y L T n [] a g/\Fr (λ_=>False) own f m t y L):=by
 intro k T l;have c1:¬(n:Int)<0:=Z;have c2:¬(1048576:Int)<n:=Z;have w1:IntKind.i64.wrap (2*(n:Int))=((n*2:Nat):Int):=Ql;have d0:(0:Int)<=((n*2:Nat):Int):=Z;have d1:n*2<=4294967296:=Z;have d2:8*(n*2)<=281474976710656:=Z;have d3:(0:Int)<=(n:Nat):=Z;have d4:n<=n*2:=Z;have d5:n<=9223372036854775807:=Z;have d6:n*2-n=n:=Z;have d7:rz (n*2) n 0 1=n:=Vi;refine cUx func175 ?_;simp only[go_sem,c1,c2,w1,d1,d2,d4,d5,d6,d7,mH,j7];refine cU (x:=.exit 0) (n:=n) (aF0:=λr e y L=>∃(i:Nat) (g:dA),i+r=n/\(eg 4).get e= .ptr (pl m 1) 0/\(eg 31).get e=Q n/\(eg 32).get e=Q i/\L=pl m 2/\y m=(.row 3 (n*2) 0 true [.num 0] (.cf g))/\y (pl m 1)=(.row 459 2 0 true [.au,.au] (.cf (bI [.sl m n 0 (.known n),.sl m 0 n (.known n)])))/\(∀j,j<i->g j=Q (-1))/\B f m y L)
  (E:=λe y L=>∃(g:dA),(eg 4).get e= .ptr (pl m 1) 0/\L=pl m 2/\y m=(.row 3 (n*2) 0 true [.num 0] (.cf g))/\y (pl m 1)=(.row 459 2 0 true [.au,.au] (.cf (bI [.sl m n 0 (.known n),.sl m 0 n (.known n)])))/\(∀j,j<n->g j=Q (-1))/\B f m y L) ?_ J2 ?_ ?_
 .exact ⟨0,_,Z,E6,E6,E6,rfl,T9,E6,Z,(B.w (m2:=m) Qd E1)⟩
 .rintro r e y L ⟨i,g,hr,C,u,M,rfl,o,b,p,q⟩ h kx s c;unfold iB;by_cases F:i<n
  .have H:(i:Int)<n:=by omega
   have d:i<n*2:=Z;have b3:IntKind.i64.wrap ((i:Int)+1)=((i+1:Nat):Int):=Qf;refine zS ?_;refine s (r-1) _ _ _ Z ⟨i+1,cy g i (Q (-1)),Z,E6,E6,E6,rfl,E6,E6,λj z=>?_,(B.w (m2:=pl m 2) Qz Z)⟩;by_cases e:j=i
   .subst e;exact cd ..
   .rw [a04 e];grind
  .have H:¬(i:Int)<n:=by omega
   refine zS ?_;exact c _ _ _ ⟨g,E6,rfl,o,b,λj z=>W,q⟩
 .rintro e y L ⟨g,C,rfl,o,b,p,q⟩;refine zS ?_;exact l _ _ _ ⟨pl m 1,cm own m [2,2],m,g,rfl,⟨gh b rfl G,ez o rfl G,N,kU _,AI,λx S=>G,λi F _=>W,W,W⟩,(B.fr q own _).cm G⟩
def DO(n i:Nat):aI:=(List.range' i (n-i)).reverse
def wP{n:Nat}(h:i<=n):j∈DO n i↔i<=j/\j<n:=by unfold DO;grind
def a4X{n:Nat}(h:i<n):DO n (i+1)++ [i]=DO n i:=by unfold DO;rw[show n-i=n-(i+1)+1 by omega,List.range'_succ,NZ]
def ZN(n i:Nat):(DO n i).Nodup:=by unfold DO;grind
def a4A(own f)(m:Nat)(R:Rt)(n:Nat)(h1:1<=n)(N:n<=64):
  Cl R.Y.Y.Y.Y 108 [Q n] f m (λv y L=>∃X t a,v= .ptr X 0/\lk t y L X n (DO n 0) a/\Fr (λc=>c=2\/c=21) own f m t y L):=by
 intro k T hk;refine cUx func108 ?_;simp only[go_sem, ↓ag 175];apply(Wq own f m _ n h1 N).bu;rintro v f1 l ⟨T0,b,rm,g,rfl,hs,q1⟩;simp only[go_sem, ↓ag 176];apply(a5C b 21 f1 l _ n h1 N).bu;rintro v d m2 ⟨S,M,wr,w,z,gb,rfl,s,o⟩;have w1:IntKind.i64.wrap ((n:Int)-1)=(n:Int)-1:=cB Z;refine zS ?_;have q12:=q1.trans o (S:=λc=>c=2\/c=21) (λ_ h=>h.elim) (λ_ h=>h.elim);refine cU (x:=.exit 0) (n:=n+1) (aF0:=λr e y L=>∃(i:Nat) (g:dA) (w:Nat),i<=n/\r=i+1/\(eg 3).get e= .ptr T0 0/\(eg 4).get e= .ptr S 0/\(eg 5).get e=Q ((i:Int)-1)/\jO M y L T0 n (DO n i) rm g/\jX M 21 y L S n (λj=>decide (j∈DO n i)) wr w z gb/\Fr (λc=>c=2\/c=21) own f m M y L)
  (E:=λe y L=>∃(g:dA) (w:Nat),(eg 3).get e= .ptr T0 0/\(eg 4).get e= .ptr S 0/\jO M y L T0 n (DO n 0) rm g/\jX M 21 y L S n (λj=>decide (j∈DO n 0)) wr w z gb/\Fr (λc=>c=2\/c=21) own f m M y L) ?_ J2 ?_ ?_
 .have u:DO n n= []:=by unfold DO;simp
  refine⟨n,g,w,Z,rfl,E6,E6,E6,?_,?_,q12⟩
  .rw [u];exact hs.ah o I
  grind
 .rintro r e f3 m3 ⟨i,g,w,hi,rfl,A,C,e5,hs,s,q⟩ rr kx lR hE;unfold iB;by_cases hi0:i=0
  .subst hi0;rw[show ((0:Nat):Int)-1= -1 from rfl] at e5;refine zS ?_;exact hE _ _ _ ⟨g,w,E6,E6,hs,s,q⟩
  .obtain ⟨i,rfl⟩:∃p,i=p+1:=⟨i-1,Z⟩;have b0:((i+1:Nat):Int)-1=(i:Int):=Z;rw[b0] at e5;have H:0<=(i:Int):=Z;simp only[go_sem,A,e5,H, ↓ag 177];have hn:i∉DO n (i+1):=λh=>by rw[wP hi] at h;omega
   apply(AT hs i Z hn).bu;rintro v f4 m4 ⟨rfl,⟨g',hs4⟩,q4⟩;simp only[go_sem,C,e5, ↓ag 178];apply(MT (s.ah q4 I) i Z W).bu;rintro v f5 m5 ⟨rfl,rfl,⟨w',hb5⟩,q5⟩;have w2:IntKind.i64.wrap ((i:Int)-1)=(i:Int)-1:=cB Z;refine zS ?_;refine lR (i+1) _ _ _ Z ⟨i,g',w',Z,rfl,E6,E6,E6,?_,?_,?_⟩
   .rw [←a4X Z];exact hs4.ah q5 I
   .rw [show (λj=>decide (j∈DO n i))=λj=>if j=i then true else decide (j∈DO n (i+1)) from funext λj=>by
     by_cases e:j=i
     .rw [ao e,uI,wP Z];omega
     .rw [aj e];refine decide_eq_decide.2 ?_;rw[wP Z,wP Z];omega]
    trivial
   .exact (q.trans q4 (S:=λc=>c=2\/c=21) Z Z).trans q5 Z Z
 .rintro e y L ⟨g,w,A,C,hs,s,q⟩;refine zS ?_;refine fG ?_;intro F hF;have q3:Fr (λ_=>False) M y L (cm M L [22]) F (pl L 1):=by
   refine Fr.cm (P:=λ_=>False) ?_ G;rw[hF];exact B.fr (B.w (m2:=L) Qc E1) _ _
  exact hk _ _ _ ⟨L,_,⟨T0,rm,g,S,wr,w,z,gb⟩,rfl,⟨ez O7 rfl G,hs.ah q3 id,s.ah q3 id⟩,q.trans q3 Z (λ_ h=>h.elim)⟩
def a2j(own:aG)(f:av)(m:Nat)(R:Rt)(n:Nat)(N:n<=64):
  Cl R.Y 179 [Q n] f m (λv y L=>v= .ptr (pl m 1) 0/\L=pl m 2/\y (pl m 1)=(.row 465 3 0 true [.au,.num 0,.num 0] (.cf (bI [.sl m 0 n (.known n),Q 0,Q 0])))/\(∃g,y m=(.row 3 n 0 true [.num 0] (.cf g)))/\B f m y L):=by
 intro k S E;have c1:¬(n:Int)<0:=Z;have c2:¬(1048576:Int)<n:=Z;have d0:(0:Int)<=(n:Nat):=Z;have d1:n<=4294967296:=Z;have d2:8*n<=281474976710656:=Z;have d5:n<=9223372036854775807:=Z;refine cUx func179 ?_;refine zS ?_;exact E _ _ _ ⟨rfl,rfl,E6,⟨_,T9⟩,(B.w (m2:=m) Qd E1)⟩
def VM(own:aG)(f:av)(m:Nat)(R:Rt)(n:Nat)(h1:1<=n)(N:n<=64):
  Cl R.Y.Y 112 [Q n] f m (λv y m'=>∃L t a,v= .ptr L 0/\kA t y m' L n [] a/\a.nx=0/\Fr (λ_=>False) own f m t y m'):=by
 intro k S hk;have d0:(0:Int)<=(n:Nat):=Z;have d1:n<=4294967296:=Z;have d2:8*n<=281474976710656:=Z;have d5:n<=9223372036854775807:=Z;have zz:zf [V.num 0]=λ_=>Q 0:=by funext j;exact(nU _ j).trans G
 refine cUx func112 ?_;simp only[go_sem, ↓ag 179];apply(a2j own f m _ n N).bu;rintro v f1 l ⟨rfl,rfl,d,⟨gr,hc⟩,q1⟩;simp only[go_sem,d1,d2,d5];refine cU (x:=.exit 0) (n:=n) (aF0:=λr e y m'=>∃(i:Nat) (g:dc),i+r=n/\(eg 3).get e= .ptr (pl m 1) 0/\(eg 4).get e= .sl (pl m 2) 0 n (.known n)/\(eg 13).get e=Q n/\(eg 14).get e=Q i/\(eg 0).get e=Q n/\m'=pl m 3/\y (pl m 2)=(.row 3 n 0 true [.num 0] (.cf (λj=>Q (g j))))/\y m=(.row 3 n 0 true [.num 0] (.cf gr))/\y (pl m 1)=(.row 465 3 0 true [.au,.num 0,.num 0] (.cf (bI [.sl m 0 n (.known n),Q 0,Q 0])))/\(∀j,j<i->g j= -1)/\B f m y m')
  (E:=λe y m'=>∃(g:dc),(eg 3).get e= .ptr (pl m 1) 0/\(eg 4).get e= .sl (pl m 2) 0 n (.known n)/\(eg 0).get e=Q n/\m'=pl m 3/\y (pl m 2)=(.row 3 n 0 true [.num 0] (.cf (λj=>Q (g j))))/\y m=(.row 3 n 0 true [.num 0] (.cf gr))/\y (pl m 1)=(.row 465 3 0 true [.au,.num 0,.num 0] (.cf (bI [.sl m 0 n (.known n),Q 0,Q 0])))/\(∀j,j<n->g j= -1)/\B f m y m') ?_ J2 ?_ ?_
 .exact ⟨0,λ_=>0,Z,E6,E6,E6,E6,E6,rfl,E6,Xw,Xw,G,(B.w (m2:=pl m 2) (by repeat (first|exact q1|refine B.bw ?_ V7)) V7)⟩
 .rintro r e y m' ⟨i,g,d,A,C,u,M,c,rfl,o,hc,b,p,q⟩ h kx lR hE;unfold iB;by_cases hi:i<n
  .have H:(i:Int)<n:=by omega
   have b3:IntKind.i64.wrap ((i:Int)+1)=((i+1:Nat):Int):=Qf;refine zS ?_;refine lR (r-1) _ _ _ Z ⟨i+1,eH g i (-1),Z,E6,E6,E6,E6,E6,rfl,by simp only[go_sem,tb],E6,E6,λj z=>?_,(B.w (m2:=pl m 3) Qz Z)⟩;by_cases e:j=i
   .subst e;exact dk ..
   .rw [cJ e];grind
  .have H:¬(i:Int)<n:=by omega
   refine zS ?_;exact hE _ _ _ ⟨g,E6,E6,E6,rfl,o,hc,b,λj z=>W,q⟩
 .rintro e y m' ⟨g,A,C,c,rfl,o,hc,b,p,q⟩;simp only[go_sem,A,C,c,bP n,kU n,yr,j7];refine fG ?_;intro F hF;have q3:Fr (λ_=>False) own f m (cm own m [5,5,5,5]) F (pl m 4):=by
   refine Fr.cm (P:=λ_=>False) ?_ G;rw[hF];exact B.fr (B.w (m2:=pl m 3) Qz Q4) _ _
  have s:(V.num 0)=Q 0:=G;refine hk _ _ _ ⟨pl m 3,cm own m [5,5,5,5],⟨pl m 1,m,pl m 2,0,0,0,gr,g⟩,rfl,⟨gh O7 rfl G,gh (i:=1) S8 rfl G,ez S8 rfl G,?_,by show m≠pl m 2;unfold pl;omega,Z,Z,G,W,λx hx=>G,AI,λi hi=>?_,kU _,rfl⟩,rfl,q3⟩
  .exact gh (i:=2) S8 rfl G
  grind
def KF(a b:Int):∃x:Int,∃c:Bool,∀(R:Rt) (f:av) (m:Nat) (k:cR),R.Y.call 368 [Q a,Q b] (.fn f m) k=k (.cI [Q x,.bool c]) (.fn f m):=by
 generalize d:IntKind.i64.wrap (a+b)=s;by_cases F:(0<=a/\0<=b/\s<0)\/(a<0/\b<0/\0<=s)
 .refine ⟨0,false,λR f m k=>?_⟩;rcases F with⟨A,N,M⟩|⟨A,N,M⟩
  .refine cUx func368 ?_;exact zC
  .have c1:¬0<=a:=by omega
   refine cUx func368 ?_;exact zC
 .refine ⟨s,true,λR f m k=>?_⟩;by_cases A:0<=a
  .have c1:¬a<0:=by omega
   by_cases N:0<=b
   .have c3:¬s<0:=by omega
    refine cUx func368 ?_;exact zC
   .refine cUx func368 ?_;exact zC
  .have c1:a<0:=by omega
   by_cases N:b<0
   .have c3:¬0<=s:=by omega
    refine cUx func368 ?_;exact zC
   .refine cUx func368 ?_;exact zC
def a1t(a b:Int)(q:aY):rF (nb .add) (.ik .u64 a) (.ik .u64 b) q=q (.ik .u64 (IntKind.u64.wrap (a+b))):=Jz
def a9H(a b:Int)(q:aY):rF (nb .sub) (.ik .u64 a) (.ik .u64 b) q=q (.ik .u64 (IntKind.u64.wrap (a-b))):=Jz
def VO(a b:Int):Int:=IntKind.u64.wrap ((BitVec.ofInt 64 a &&& BitVec.ofInt 64 b).toNat:Int)
def ag8(a b:Int)(q:aY):rF (nb .and) (.ik .u64 a) (.ik .u64 b) q=q (.ik .u64 (VO a b)):=by trivial
def ag7(a b:Int)(s:b≠0)(q:aY):rF (nb .rem) (.ik .u64 a) (.ik .u64 b) q=q (.ik .u64 (a.tmod b)):=by rw[yw];show aR (mR b 0) false (mv .u64 (a.tmod b) q)=_;rw[a5D,kM s,mh];rfl
def a9I(a b:Int)(q:aY):rF (nb .gtr) (.ik .u64 a) (.ik .u64 b) q=q (.bool (jw (leI a b))):=by rw[yw];show lp (jw (leI a b)) q=_;cases jw (leI a b)<;>rfl
def DV(a:Int)(n:Nat)(hn:n<=64):∃x:Int,∀(q:aY),IF (nb .shr) (.ik .u64 a) (.ik .u64 (n:Int)) q=q (.ik .u64 x):=⟨a.fdiv (2^(min n 64)),λq=>mh _ _⟩
def ahH(a b:Int):∃x:Int,∀(q:aY),rF (nb .and) (Q a) (Q b) q=q (Q x):=by
 refine⟨IntKind.i64.wrap ((BitVec.ofInt 64 a &&& BitVec.ofInt 64 b).toNat:Int),λq=>?_⟩;rw[pD (b:=nb .and) (λm n R g=>?_)]
 .exact fV _ _
 .have A:m &&& n<=cO:=cL FH R;show q (.num (m &&& n))=mv .i64 (IntKind.i64.wrap ((BitVec.ofInt 64 (m:Int) &&& BitVec.ofInt 64 (n:Int)).toNat:Int)) q;unfold cO at R g;rw[fV,BitVec.toNat_and,bv Z,bv Z,pF A,eD A]
def abQ(a:Int):∃x:Int,∀(R:Rt) (f:av) (m:Nat) (k:cR),R.Y.call 263 [.ik .u64 a] (.fn f m) k=k (Q x) (.fn f m):=by obtain⟨t,j⟩:=DV a 1 I;generalize A:IntKind.u64.wrap (VO t 6148914691236517205+VO a 6148914691236517205)=b;obtain⟨H,z⟩:=DV b 2 I;generalize N:IntKind.u64.wrap (VO H 3689348814741910323+VO b 3689348814741910323)=c;obtain⟨c1,s3⟩:=DV c 4 I;generalize M:VO (IntKind.u64.wrap (c1+c)) 1085102592571150095=d;obtain⟨d1,s4⟩:=DV d 8 I;generalize i:IntKind.u64.wrap (d+d1)=e;obtain⟨u,l⟩:=DV e 16 I;generalize r:IntKind.u64.wrap (e+u)=g;obtain⟨s,h⟩:=DV g 32 I;obtain⟨x,S⟩:=ahH (IntKind.i64.wrap (IntKind.u64.wrap (g+s))) 127;refine⟨x,λR f m k=>?_⟩;have t1:=λq=>j q;have t2:=λq=>z q;have t3:=λq=>s3 q;have t4:=λq=>s4 q;have t5:=λq=>l q;have t6:=λq=>h q;simp only[Int.cast_ofNat_Int] at t1 t2 t3 t4 t5 t6;refine cUx func263 ?_;simp only[go_sem,a1t,ag8,t1,t2,t3,t4,t5,t6,A,N,M,i,r,fV,S]
def xU(n:Int):∃b:Bool,(b=true->0<n)/\∀(R:Rt) (f:av) (m:Nat) (k:cR),R.Y.Y.Y.call 106 [Q n] (.fn f m) k=k (.bool b) (.fn f m):=by
 obtain⟨x,S⟩:=abQ (IntKind.u64.wrap n);have A:∀(R:Rt) (f:av) (m:Nat) (k:cR),R.Y.Y.call 174 [.ik .u64 (IntKind.u64.wrap n)] (.fn f m) k=k (Q x) (.fn f m):=λR f m k=>by refine cUx func174 ?_;exact zC
 by_cases s:0<n
 .refine ⟨pb (x=1),Z,λR f m k=>?_⟩;refine cUx func106 ?_;exact zC
 .refine ⟨false,λh=>G,λR f m k=>?_⟩;refine cUx func106 ?_;exact zC
def XC(n d:Int)(a:d<=9223372036854775807):∃x:Int,∃c:Bool,∀(R:Rt) (f:av) (m:Nat) (k:cR),R.Y.Y.Y.Y.call 367 [Q n,Q d] (.fn f m) k=k (.cI [Q x,.bool c]) (.fn f m):=by
 obtain⟨b,i,g⟩:=xU d;by_cases e:n<0
 .refine ⟨0,false,λR f m k=>?_⟩;refine cUx func367 ?_;exact zC
 .cases b with
  |false=>refine⟨0,false,λR f m k=>?_⟩;refine cUx func367 ?_;exact zC
  |true=>
   have j:=i rfl;have l:IntKind.u64.wrap d=d:=wrap_u64 Z;generalize M:IntKind.u64.wrap (IntKind.u64.wrap (IntKind.u64.wrap n+d)-1)=s;have h:=λq=>ag7 s d Z q;generalize S:IntKind.u64.wrap (s-s.tmod d)=y;cases p:jw (leI y 9223372036854775807) with
   |true=>refine⟨0,false,λR f m k=>?_⟩;refine cUx func367 ?_;simp only[go_sem,e,g,l,M,h,S,a1t,a9H,a9I,p]
   |false=>refine⟨IntKind.i64.wrap y,true,λR f m k=>?_⟩;refine cUx func367 ?_;simp only[go_sem,e,g,l,M,h,S,a1t,a9H,a9I,p,fV]
def scx(f:Nat)(b:Code)(R:Rt)(rd:Nat)(M:cF)(j:X->cF)(n:Nat):X->cF:=
 rounds (λ(_:X) (_:List D) (_:Env) (_:Heap)=>false) (λr x L e h=>X.uS x (λl=>jv (findLabel b l) (j x L e h) (λc=>R.code f c rd L e h M r)) (j x L e h)) n
@[go_sem ↓]def ajN(f:Nat)(b:Code)(R)(rd:Nat)(ds:List D)(e h)(M:cF)(j:X->cF):(cc K f (.scope b)).run R rd ds e h M j=(cc K f b).run R rd ds e h M (scx f b R rd M j iq):=G
@[go_sem ↓]theorem akM(f:Nat)(b:Code)(R)(rd:Nat)(M:cF)(j:X->cF)(ds:List D)(e h):scx f b R rd M j iq .ret ds e h=j .ret ds e h:=rfl
@[go_sem ↓]theorem agD(f:Nat)(b:Code)(R)(rd:Nat)(M:cF)(j:X->cF)(ds:List D)(e h):scx f b R rd M j 999999 .ret ds e h=j .ret ds e h:=rfl
def agE{f:Nat}{b c:Code}(hc:findLabel b l=some c)(R:Rt)(rd:Nat)(M:cF)(j:X->cF)(ds:List D)(e h):scx f b R.Y rd M j iq (.goto l) ds e h=(cc K f c).run R rd ds e h M (scx f b R.Y rd M j 999999):=by show jv (findLabel b l) _ _=_;rw[hc];rfl
def Si(c s a z:Int)(S:a<=9223372036854775807):∃x y e:Int,∀(R:Rt) (f:av) (m:Nat) (k:cR),R.Y.Y.Y.Y.Y.call 301 [Q c,Q s,Q a,Q z] (.fn f m) k=k (.cI [Q x,Q y,Q e]) (.fn f m):=by
 obtain⟨b,j,g⟩:=xU a;obtain⟨at_,h,N⟩:=XC c a S;obtain⟨d,i,o⟩:=KF at_ s;by_cases q:c<0
 .refine ⟨0,0,2,λR f m k=>?_⟩;refine cUx func301 ?_;refine zS ?_;trivial
 .by_cases c1:s<1
  .refine ⟨0,0,2,λR f m k=>?_⟩;refine cUx func301 ?_;refine zS ?_;trivial
  .by_cases c2:z<1
   .refine ⟨0,0,2,λR f m k=>?_⟩;refine cUx func301 ?_;refine zS ?_;trivial
   .cases b with
    |false=>
     .refine ⟨0,0,2,λR f m k=>?_⟩;refine cUx func301 ?_;refine zS ?_;trivial
    |true=>
     by_cases c3:z<s
     .refine ⟨0,0,5,λR f m k=>?_⟩;refine cUx func301 ?_;refine zS ?_;trivial
     .by_cases c4:z<a
      .refine ⟨0,0,5,λR f m k=>?_⟩;refine cUx func301 ?_;refine zS ?_;trivial
      .cases h with
       |false=>
        .refine ⟨0,0,6,λR f m k=>?_⟩;refine cUx func301 ?_;refine zS ?_;trivial
       |true=>
        cases i with
        |false=>
         .refine ⟨0,0,6,λR f m k=>?_⟩;refine cUx func301 ?_;refine zS ?_;trivial
        |true=>
         by_cases M:z<d
         .refine ⟨0,0,9,λR f m k=>?_⟩;refine cUx func301 ?_;refine zS ?_;trivial
         .refine ⟨at_,d,0,λR f m k=>?_⟩;refine cUx func301 ?_;exact zC
def a02(n p:Nat):mQ n (λ_=>0) p=if p=0 then(n:Int) else 0:=by
 induction n with
 |zero=>unfold mQ;omega
 |succ n H=>unfold mQ;omega
def OJ(own f)(m:Nat)(R:Rt)(c z:Int)(hc:¬(12<c/\c<=1048576))(hz:¬(256<z/\z<=1048576)):
  Cl R.Y.Y.Y.Y.Y 59 [Q c,Q z] f m (λv y L=>(v= .cI [.bg,Q 2]/\B f m y L)\/∃S n sz t A,v= .cI [.ptr S 0,Q 0]/\c=(n:Nat)/\z=(sz:Nat)/\1<=n/\n<=12/\64<=sz/\sz<=256/\i9 t y L S n sz 0 (λ_=>0) (λ_=>0) (λ_=>0) (DO n 0) A/\Fr (λc=>c=2\/c=21) own f m t y L):=by
 intro k T E;have no:∀y L,B f m y L->k (.cI [.bg,Q 2]) (.fn y L)=T:=λy L h=>W;by_cases c1:c<1
 .refine cUx func59 ?_;refine zS ?_;exact no _ _ (B.refl ..)
 .by_cases c2:1048576<c
  .refine cUx func59 ?_;refine zS ?_;exact no _ _ (B.refl ..)
  .by_cases z1:z<64
   .refine cUx func59 ?_;refine zS ?_;exact no _ _ (B.refl ..)
   .by_cases z2:1048576<z
    .refine cUx func59 ?_;refine zS ?_;exact no _ _ (B.refl ..)
    .obtain ⟨b,_,hp⟩:=xU z;cases b with
     |false=>refine cUx func59 ?_;refine zS ?_;exact no _ _ (B.refl ..)
     |true=>
      obtain⟨n,rfl⟩:∃n:Nat,c=n:=⟨c.toNat,Z⟩;obtain⟨sz,rfl⟩:∃n:Nat,z=n:=⟨z.toNat,Z⟩;have d0:(0:Int)<=(n:Nat):=Z;have d1:n<=4294967296:=Z;have d2:40*n<=281474976710656:=Z;have d5:n<=9223372036854775807:=Z;refine cUx func59 ?_;simp only[go_sem,c1,c2,z1,z2,hp,d1,d2, ↓ag 107];refine aP ?_;intro F hF;have x:Fr (λ_=>False) own f m (cm own m [23]) F (pl m 1):=by refine Fr.cm (P:=λ_=>False) ?_ G;rw[hF];exact B.fr (B.w (m2:=m) Qc E1) _ _
      have a:At (cm own m [23]) 23 F (pl m 1) m (.row 287 (n*6) 0 true [.ik .u32 0,.ik .i32 0,.ik .u32 0,.num 0,.bg,.bg] (.cf (zf [.ik .u32 0,.ik .i32 0,.ik .u32 0,.num 0,.bg,.bg]))):=ez O7 rfl G;apply(a1D (cm own m [23]) F (pl m 1) _ n Z).bu;rintro v r l ⟨aF1,bX,ta,rfl,ht,q1⟩;simp only[go_sem, ↓ag 108];apply(a4A bX r l _ n Z Z).bu;rintro v d m2 ⟨X,M,fa,rfl,hf,o⟩;simp only[go_sem, ↓ag 109];apply(Fp M 24 d m2 _ 4 I I).bu;rintro v N s ⟨C,g,rfl,q,q3⟩;refine zS ?_;refine fG ?_;intro H e;have q4:Fr (λ_=>False) g N s (cm g s [23]) H (pl s 1):=by refine Fr.cm (P:=λ_=>False) ?_ G;rw[e];exact B.fr (B.w (m2:=s) Qc E1) _ _
      have u:∀i j,j<6->zf [V.ik .u32 0,.ik .i32 0,.ik .u32 0,.num 0,.bg,.bg] (i*6+j)=bI [V.ik .u32 0,.ik .i32 0,.ik .u32 0,.num 0,.bg,.bg] j:=λi j hj=>by show([V.ik .u32 0,.ik .i32 0,.ik .u32 0,.num 0,.bg,.bg][(i*6+j)%6]?).getD _=_;rw[Nat.mul_comm,Nat.mul_add_mod,qv hj];rfl
      refine E _ _ _ (.inr ⟨s,n,sz,cm g s [23],⟨⟨aF1,X,m,C,_,_,_,_⟩,ta,fa,λ_=>0⟩,rfl,rfl,rfl,Z,Z,Z,Z,⟨⟨ez R5 rfl G,(((a.ah q1 id).ah o I).ah q3 id).ah q4 id,rfl,rfl,rfl,rfl,?_,rfl,Z,Z,λi hi=>?_⟩,((ht.ah o I).ah q3 id).ah q4 id,(hf.ah q3 id id id).ah q4 id id id,q.ah q4 id,λ_=>W,ZN _ _,λi=>?_,Z,Z,Z,λi hi=>.inl ⟨?_,?_,?_,rfl⟩,Z,Z⟩,?_⟩)
      .intro p hp;rw[a02];rcases p with _|_|_|_|p<;>first|rfl|omega
      .exact (u i 3 I).trans G
      .rw [wP Z];simp
      .exact u i 0 I
      .exact u i 1 I
      .exact u i 4 I
      .exact (((x.trans q1 (S:=λc=>c=2\/c=21) (λ_ h=>h.elim) (λ_ h=>h.elim)).trans o (λ_ h=>h) (λ_ h=>h)).trans q3 (λ_ h=>h) (λ_ h=>h.elim)).trans q4 (λ_ h=>h) (λ_ h=>h.elim)
variable{S sz:Nat}
def a7m(own f)(m:Nat)(R:Rt){n:Nat}{A:SL}(H:i9 own f m S n sz 0 (λ_=>0) (λ_=>0) (λ_=>0) (DO n 0) A)(n1:1<=n)(n2:n<=12)(q lo:Int):
  Cl R.Y.Y.Y.Y.Y.Y 60 [.ptr S 0,Q q,Q lo] f m (λv y m'=>(v= .cI [.bg,Q 2]/\B f m y m')\/∃C z t a,v= .cI [.ptr C 0,Q 0]/\q=(z:Nat)/\ji t y m' C n sz 0 z (λ_=>0) (λ_=>0) (λ_=>0) (DO n 0) [] 0 a/\a.S=S/\Fr (λ_=>False) own f m t y m'):=by
 intro k T E;have no:∀y m',B f m y m'->k (.cI [.bg,Q 2]) (.fn y m')=T:=λy m' h=>W;have hS:=SZ H;have z1:=H.z1;have c0:¬(sz:Int)=0:=Z;by_cases c1:q<1
 .refine cUx func60 ?_;refine zS ?_;exact no _ _ (B.refl ..)
 .by_cases c2:1048576<q
  .refine cUx func60 ?_;refine zS ?_;exact no _ _ (B.refl ..)
  .by_cases c3:lo<0
   .refine cUx func60 ?_;refine zS ?_;exact no _ _ (B.refl ..)
   .by_cases c4:1048576<lo
    .refine cUx func60 ?_;refine zS ?_;exact no _ _ (B.refl ..)
    .obtain ⟨z,rfl⟩:∃n:Nat,q=n:=⟨q.toNat,Z⟩;obtain⟨l,rfl⟩:∃n:Nat,lo=n:=⟨lo.toNat,Z⟩;refine cUx func60 ?_;simp only[go_sem,hS,c0,c1,c2,c3,c4, ↓ag 111];apply(a6K own f m _ 64 I).bu;rintro v f1 m1 ⟨j,b,rfl,o,q1⟩;simp only[go_sem, ↓ag 41];apply(a1R (H.ah q1 (λc _ h=>h) id id)).bu;rintro v d m2 ⟨q2,hv,_⟩;have hl:=λq=>hv.jD Z q;have hu:v≠ .undef:=by rcases hv with⟨rfl,_⟩|⟨_,_,_,_,_,_,_,_,rfl,_⟩<;>exact λh=>Q8
     simp only[go_sem,hl, ↓ag 112];apply(VM b d m2 _ n n1 Z).bu;rintro v N s ⟨L,g9,la,rfl,hL,hnx,p⟩;simp only[go_sem, ↓ag 113];apply(a6F g9 N s _ l Z).bu;rintro v g m4 ⟨r,cS,rfl,hW,q4⟩;simp only[go_sem, ↓ag 109];apply(Fp cS 31 g m4 _ 2 I I).bu;rintro v f5 u ⟨aEV,fQ,rfl,hQ,M⟩;refine zS ?_;refine fG ?_;intro aEZ e;have x:Fr (λ_=>False) fQ f5 u (cm fQ u [9]) aEZ (pl u 1):=by refine Fr.cm (P:=λ_=>False) ?_ G;rw[e];exact B.fr (B.w (m2:=u) Qc E1) _ _
     have F:Fr (λ_=>False) b f1 m1 b d m2:=B.fr q2 _ _;have t1:=q1.trans F (S:=λ_=>False) (λ_ h=>h) (λ_ h=>h);have t3:=t1.trans p (S:=λ_=>False) (λ_ h=>h) (λ_ h=>h);have t35:=q4.trans M (S:=λ_=>False) (λ_ h=>h) (λ_ h=>h);have t5:=t3.trans t35 (S:=λ_=>False) (λ_ h=>h) (λ_ h=>h);have t46:=t35.trans x (S:=λ_=>False) (λ_ h=>h) (λ_ h=>h);refine E _ _ _ (.inr ⟨u,z,cm fQ u [9],⟨j,S,L,r,aEV,A,la,λ_=>0⟩,rfl,rfl,⟨ez R5 rfl G,?_,(H.ah t5 (λc _ h=>h) id id).ah x (λc _ h=>h) id id,hL.ah t46 id,W,(hW.ah M id).ah x id,hQ.ah x id,λ_=>W,rfl,λi=>?_,λi _=>I,Z,Z⟩,rfl,t5.trans x (λ_ h=>h) (λ_ h=>h)⟩)
     .exact (((o.ah F id).ah p id).ah t35 id).ah x id
     .simp
def IT(a b c)(j:Nat):zf [a,b,c] j=if j%3=0 then a else if j%3=1 then b else c:=by show([a,b,c][j%3]?).getD .undef=_;grind
def QE(i:Nat):Int:=if i%3=2 then 0 else -1
def IU:zf [Q (-1),Q (-1),Q (-1)]=λi=>Q ((λ_=>-1:dc) i):=by funext j;rw[IT];grind
def IV:zf [Q (-1),Q (-1),Q 0]=λi=>Q (QE i):=by funext j;rw[IT];unfold QE;grind
def UT(N L:Nat):IS N L (λ_=>-1) QE:=by
 refine⟨λi=>?_,λi F=>?_⟩
 .unfold GB;omega
 .unfold QE;omega
def quC(C D S M:Nat):ay:=[.ptr C 0,.ptr D 0,.ptr S 0,.map M]++List.replicate 512 (Q 0)
def a2u(C D S M i:Nat)(h:i<512):bI (quC C D S M) (4+i)=Q 0:=by unfold quC;rw[mj,aj W,show 4+i-([V.ptr C 0,.ptr D 0,.ptr S 0,.map M]:ay).length=i from Nat.add_sub_cancel_left 4 i,dH G,Ob]
def a7n(own f)(m:Nat)(R:Rt):
  Cl R.Y.Y 63 [] f m (λv y L=>∃aEV s a,v= .ptr aEV 0/\mW s y L aEV 0 0 a/\a.oh=QE/\Fr (λ_=>False) own f m s y L):=by
 intro k T E;have u:∀(R:Rt) (f:av) (m:Nat) (k:cR),(xk (.mB 373 378 380)).run R [Q 1,Q 256] (.fn f m) k=_:=λR f m k=>rZ 373 378 380 1 256 I I R f m k;have e2:∀(R:Rt) (f:av) (m:Nat) (k:cR),(xk (.mB 373 378 380)).run R [Q 64,Q 256] (.fn f m) k=_:=λR f m k=>rZ 373 378 380 64 256 I I R f m k;refine cUx func63 ?_;simp only[go_sem,u,e2,IU,IV, ↓ag 116];refine aP ?_;intro F j;have q0:Fr (λ_=>False) own f m (cm own m [38,38,38,39,39,39]) F (pl m 6):=by refine Fr.cm (P:=λ_=>False) ?_ G;rw[j];exact B.fr (B.w (m2:=m) Qd E1) _ _
 apply(xH (cm own m [38,38,38,39,39,39]) 42 F (pl m 6) 256 I _).bu;rintro v r q ⟨S,b,d,rfl,M,z⟩;refine zS ?_;refine fG ?_;intro H e;have p:Fr (λ_=>False) b r q (cm b q [37,37]) H (pl q 2):=by refine Fr.cm (P:=λ_=>False) ?_ G;rw[e];exact B.fr (B.w (m2:=q) Qd E1) _ _
 have t:∀{i:Nat} {o:O} {c:Nat},F (pl m i)=o-> [38,38,38,39,39,39][i]? =some c->At (cm b q [37,37]) c H (pl q 2) (pl m i) o:=λA N=>((gh (n:=6) (l:=[38,38,38,39,39,39]) A N I).ah z id).ah p id;have g:m=pl m 0:=rfl;refine E _ _ _ ⟨pl q 1,cm b q [37,37],⟨pl m 2,m,pl m 1,λ_=>-1,QE,pl m 5,pl m 3,pl m 4,λ_=>-1,QE,S,λ_=>0,λ_=>false,0,d,q,[],0,_,bI (quC (pl m 2) (pl m 5) S q),λ_=>0,λ_=>0⟩,rfl,⟨gh R5 rfl G,rfl,rfl,rfl,rfl,λi hi=>a2u _ _ _ _ i Z,λi hi=>?_,ez (by rw[e];refine zS ?_;rfl) rfl G,Wf.nil _,W,λx v h=>Q8,⟨⟨t W1 rfl,t (i:=0) (by rw[j,←g];simp only[go_sem]) rfl,t W1 rfl,I,I⟩,UT 256 1⟩,⟨⟨t W1 rfl,t W1 rfl,t W1 rfl,I,I⟩,UT 256 64⟩,M.ah p id id,bP _,λ_=>bP _⟩,rfl,(q0.trans z (S:=λ_=>False) (λ_ h=>h) (λ_ h=>h)).trans p (λ_ h=>h) (λ_ h=>h)⟩;rw[show 260+i=4+(256+i) by omega];exact a2u _ _ _ _ _ Z
variable{d:Nat}
def nf(g:dc)(c:Nat)(k:Int):Int:=if 0<=k then g (k.toNat*3+c) else -1
def ov(g)(c n:Nat):nf g c (n:Int)=g (n*3+c):=G
def gR(g)(hc:c<3)(hd:d<3){i:Int}(F:0<=i)(x:Int):nf (eH g (i.toNat*3+d) x) c=if c=d then up (nf g c) i x else nf g c:=by
 funext k;unfold nf;by_cases h:c=d
 .rw [ao h,pH];by_cases e:k=i
  .subst e;subst h;rw[ao F,dk,ao rfl]
  .rw [aj e];split
   .rw [cJ Z]
   .rfl
 .rw [aj h];split
  .rw [cJ Z]
  .rfl
def ou(g)(hc:c<3){i:Int}(F:0<=i)(x:Int):nf (eH g (i.toNat*3) x) c=if c=0 then up (nf g c) i x else nf g c:=gR g (d:=0) hc I F x
def ni(g)(n:Nat)(a b d:Int):nf (zn g (n*3) a b d) 0=up (nf g 0) n a/\nf (zn g (n*3) a b d) 1=up (nf g 1) n b/\nf (zn g (n*3) a b d) 2=up (nf g 2) n d:=by
 refine⟨?_,?_,?_⟩<;>funext k<;>unfold nf zn<;>rw[pH]<;>by_cases e:k=n
 all_goals omega
 all_goals rw[aj e];split
 all_goals omega
section
variable (gi li:dc) (l n:Nat)
def aeg:nf (sT gi li l n) 0=up (nf gi 0) n (nf li 0 l):=by
 unfold sT;rw[ov];split
 .rename_i h;rw[gR _ I I h,aj I];exact(ni ..).1
 .exact (ni ..).1
def aef:nf (sT gi li l n) 1=if 0<=nf li 0 l then up (up (nf gi 1) n (-1)) (nf li 0 l) n else up (nf gi 1) n (-1):=by
 unfold sT;rw[ov];split
 .rename_i h;rw[gR _ I I h,ao rfl,(ni ..).2.1];grind
 .rename_i h;rw[(ni ..).2.1];grind
def aee:nf (sT gi li l n) 2=up (nf gi 2) n l:=by
 unfold sT;split
 .rename_i h;rw[gR _ I I h,aj I];exact(ni ..).2.2
 .exact (ni ..).2.2
def aed:nf (vB li l n) 0=up (nf li 0) l n:=by unfold vB;have s:(0:Int)<=(l:Int):=Z;have e:=gR (i:=(l:Int)) (d:=2) (c:=0);have b:=ou (i:=(l:Int)) (c:=0);have A:=gR (i:=(l:Int)) (d:=1) (c:=0);grind
def aec:nf (vB li l n) 1=if 0<=nf li 0 l then nf li 1 else up (nf li 1) l n:=by unfold vB;have s:(0:Int)<=(l:Int):=Z;have e:=gR (i:=(l:Int)) (d:=2) (c:=1);have b:=ou (i:=(l:Int)) (c:=1);have A:=gR (i:=(l:Int)) (d:=1) (c:=1);simp only[iI] at e b A;rw[e _ I I s,aj I,b _ I s,aj I,ov];grind
def aeb(j:Nat):vB li l n (j*3+2)=if j=l then IntKind.i64.wrap (li (l*3+2)+1) else li (j*3+2):=by
 unfold vB;by_cases h:j=l
 .subst h;rw[dk,ao rfl]
 .rw [cJ Z,cJ Z,aj h];split;rfl;rw[cJ Z]
def a95:nf (mV gi n) 0=up (if 0<=nf gi 1 n then up (nf gi 0) (nf gi 1 n) (nf gi 0 n) else nf gi 0) n (-1):=by
 unfold mV;simp only[ov,j8];rw[(ni ..).1];congr 1;split
 .rename_i h;rw[ou _ I h,ao rfl];split
  .rename_i N;rw[gR _ I I N,aj I]
  .rfl
 .split
  .rename_i N;rw[gR _ I I N,aj I]
  .rfl
def a94:nf (mV gi n) 1=up (if 0<=nf gi 0 n then up (nf gi 1) (nf gi 0 n) (nf gi 1 n) else nf gi 1) n (-1):=by
 unfold mV;simp only[ov,j8];rw[(ni ..).2.1];congr 1;have:∀g,nf (if 0<=gi (n*3+1) then eH g ((gi (n*3+1)).toNat*3) (gi (n*3)) else g) 1=nf g 1:=λg=>by
  split
  .rename_i h;rw[ou _ I h,aj I]
  .rfl
 rw[this];split
 .rename_i N;rw[gR _ I I N,ao rfl]
 .rfl
def a93:nf (mV gi n) 2=up (nf gi 2) n (-1):=by
 unfold mV;simp only[];rw[(ni ..).2.2];congr 1;split
 .rename_i h;rw[ou _ I h,aj I];split
  .rename_i N;rw[gR _ I I N,aj I]
  .rfl
 .split
  .rename_i N;rw[gR _ I I N,aj I]
  .rfl
variable (hl:0<=gi (n*3+2))
include hl
def a92:nf (eR gi li n) 0=if 0<=nf gi 1 n then nf li 0 else up (nf li 0) (nf gi 2 n) (nf gi 0 n):=by
 unfold eR;simp only[ov,j8];rw[gR _ I I hl,aj I];have:nf (if 0<=gi (n*3) then li else eH li ((gi (n*3+2)).toNat*3+1) (gi (n*3+1))) 0=nf li 0:=by
  split
  .rfl
  .rw [gR _ I I hl,aj I]
 split
 .trivial
 .rw [ou _ I hl,ao rfl,this]
def a91:nf (eR gi li n) 1=if 0<=nf gi 0 n then nf li 1 else up (nf li 1) (nf gi 2 n) (nf gi 1 n):=by
 unfold eR;simp only[ov,j8];rw[gR _ I I hl,aj I];have:∀g,nf (if 0<=gi (n*3+1) then g else eH g ((gi (n*3+2)).toNat*3) (gi (n*3))) 1=nf g 1:=λg=>by
  split
  .rfl
  .rw [ou _ I hl,aj I]
 rw[this];split
 .rfl
 .rw [gR _ I I hl,ao rfl]
def a90(j:Nat):eR gi li n (j*3+2)=if(j:Int)=gi (n*3+2) then IntKind.i64.wrap (li (j*3+2)-1) else li (j*3+2):=by
 unfold eR;by_cases h:(j:Int)=gi (n*3+2)
 .rw [ao h,show(gi (n*3+2)).toNat=j by omega,dk]
 .rw [aj h,cJ Z];split
  .split
   .rfl
   .rw [cJ Z]
  .rw [cJ Z];split
   .rfl
   .rw [cJ Z]
end
section
variable {own:aG} {c:Nat} {f:av} {m C N L nr lr:Nat} {gi li:dc}
def CM(H:kB own c f m C N L nr lr gi li)(n:Nat)(hn:n<N)(R:Rt)(a:Nat)(k):R.Y.Y.call 357 [.ptr C 0,Q n] (.fn f a) k=k (Q (gi (n*3+1))) (.fn f a):=by have E:=H.aC.obj;have F:=H.an.obj;have g:=wZ H n hn;have w:N<=9223372036854775807:=O8;have c1:n*3+1<N*3:=Z;refine cUx func357 ?_;exact zC
def a07(H:kB own c f m C N L nr lr gi li)(l:Nat)(hl:l<L)(R:Rt)(a:Nat)(k):R.Y.Y.call 313 [.ptr C 0,Q l] (.fn f a) k=k (Q (li (l*3+2))) (.fn f a):=by have E:=H.aC.obj;have F:=H.al.obj;have g:=tM H l hl;have w:L<=9223372036854775807:=L6;have c1:l*3+2<L*3:=Z;refine cUx func313 ?_;exact zC
end
variable{y:av}
structure Nq where
 S:Nat
 sa:rG
 pr:Nat
 par:dA
 C:Nat
 nr:Nat
 lr:Nat
 gi:dc
 li:dc
 t:Int->Nat
structure fI(own:aG)(f:av)(m T N:Nat)(gen:aG)(op:bs)(cV:Nat)(P:Int->Int)(a:Nq):Prop where
 aT:At own 50 f m T (.row 266 3 0 true [.bg,.bg,.au] (.cf (bI [.ptr a.S 0,.ptr a.C 0,.sl a.pr 0 N (.known N)])))
 ap:At own 50 f m a.pr (.row 3 N 0 true [.num 0] (.cf (a.par)))
 s:fF own 51 f m a.S N gen op cV a.sa
 c:kB own 53 f m a.C N (N+1) a.nr a.lr a.gi a.li
 pa:nf a.gi 2=P
 fo:Fo N (nf a.gi 0) (nf a.gi 1) P (nf a.li 1) (nf a.li 0) a.t
 cn:∀j,j<N+1->a.li (j*3+2)=wW P N j
 lo:∀k,k<N->(0<=P k↔op k=true)
 tt:∃T,∀k,a.t k<T
 n1:N<=4096
@[grind] def PF(c:Nat):Prop:=c=50\/c=51\/c=52\/c=53
section
variable {own:aG} {f:av} {m T N cV:Nat} {gen:aG} {op:bs} {P:Int->Int} {a:Nq}
def fI.ah{aEV:dF}{t:aG}{L:Nat}(h:fI own f m T N gen op cV P a)(q:Fr aEV own f m t y L)(g:∀c,PF c->¬aEV c):fI t y L T N gen op cV P a:=
 ⟨h.aT.ah q (g _ (.inl rfl)),h.ap.ah q (g _ (.inl rfl)),h.s.ah q (g _ (.inr (.inl rfl))) (g _ (.inr (.inr (.inl rfl)))),h.c.ah q (g _ (.inr (.inr (.inr rfl)))),h.pa,h.fo,h.cn,h.lo,h.tt,h.n1⟩
def fI.nd(H:fI own f m T N gen op cV P a){k:Nat}(E:k<N)(L:op k=true):Nd N P k:=⟨Z,Z,(H.lo k E).2 L⟩
def fI.at2(H:fI own f m T N gen op cV P a)(k:Nat):a.gi (k*3+2)=P k:=by rw[←H.pa,ov]
def Cu(H:fI own f m T N gen op cV P a)(R:Rt)(L:Nat)(k):R.Y.call 281 [.ptr T 0] (.fn f L) k=k (.bool true) (.fn f L):=by have v:=H.aT.obj;refine cUx func281 ?_;exact zC
def HQ(H:fI own f m T N gen op cV P a)(p:Nat)(g:p<N)(R:Rt)(L:Nat)(k):R.Y.Y.Y.call 299 [.ptr T 0,Q p] (.fn f L) k=k (.bool (op p)) (.fn f L):=by
 have v:=H.aT.obj;have F:=Cu H;have b:=CL H.c p g;rw[H.at2] at b;have t:=H.lo p g;cases e:op p with
 |true=>have c1:0<=P p:=W;refine cUx func299 ?_;exact zC
 |false=>have c1:¬0<=P p:=λh=>W;refine cUx func299 ?_;exact zC
def ZA(H:fI own f m T N gen op cV P a)(p g:Int)(R:Rt)(L:Nat)(k):R.Y.Y.call 298 [.ptr T 0,Q p,Q g] (.fn f L) k=k (.bool (decide (0<=p/\op p.toNat=true/\(gen p.toNat:Int)=g))) (.fn f L):=by have v:=H.aT.obj;have F:=Cu H;have b:=oQ H.s p g;refine cUx func298 ?_;exact zC
def EY(H:fI own f m T N gen op cV P a)(p:Nat)(g:p<N)(d:op p=true)(R:Rt)(L:Nat)(k):R.Y.Y.Y.Y.call 419 [.ptr T 0,Q p] (.fn f L) k=k (Q (nf a.li 1 p)) (.fn f L):=by have v:=H.aT.obj;have b:=HQ H p g;have F:=sK H.c p Z;rw[ov];refine cUx func419 ?_;exact zC
def a4F(H:fI own f m T N gen op cV P a)(p:Nat)(g:p<N)(R:Rt)(L:Nat)(k):R.Y.Y.Y.call 420 [.ptr T 0,Q p] (.fn f L) k=k (Q (nf a.gi 1 p)) (.fn f L):=by have v:=H.aT.obj;have b:=Cu H;have F:=CM H.c p g;rw[ov];refine cUx func420 ?_;exact zC
def UE{R:Rt}(H:fI own f m T N gen op cV P a)(hc:cV<N)(j:Nat)(z:j=N\/j<N/\op j=true)(x:Int):
  Cl R.Y.Y.Y 296 [.ptr T 0,Q j,Q x] f m (λv f' L=>∃p:Nat,v= .cI [Q p,Q (gen p),.bool true]/\p<N/\op p=false/\(∃a',fI own f' L T N gen (fB op p true) (cV+1) (up P p j) a')/\Fr PF own f m own f' L):=by
 intro k aEY E;have hT:=H.aT.obj;have n9:N<=9223372036854775807:=O8;refine cUx func296 ?_;simp only[go_sem,hT, ↓ag 289];apply(uL H.s hc).bu;rintro v r l ⟨p,rfl,rfl,g,ho,⟨sa',M⟩,q1⟩;have T1:=H.aT.ah q1 I;have P1:=H.ap.ah q1 I;have hT1:=T1.obj;have hP1:=P1.obj;have u:T≠a.pr:=W;simp only[go_sem,hT1,hP1,g,u, ↓ag 290];refine aP ?_;intro F hF;have o:Fr (· =50) own r l own F l:=by rw[hF];exact(Fr.w (m2:=l) (by repeat (first|exact Fr.refl _ _ _ _|refine Fr.bw ?_ (by first|exact λh=>absurd h J7|exact λ_=>P1.own|exact λ_=>.inl P1.own|exact λ_=>.inr P1.own))) Z)
 have T2:At own 50 F l T (.row 266 3 0 true [.bg,.bg,.au] (.cf (bI [.ptr a.S 0,.ptr a.C 0,.sl a.pr 0 N (.known N)]))):=⟨Zk,T1.own,T1.lt⟩;have P2:At own 50 F l a.pr (.row 3 N 0 true [.num 0] (.cf (cy a.par p (Q x)))):=⟨O2,P1.own,P1.lt⟩;have EW:¬0<=P p:=λh=>by have:=(H.lo p g).1 h;grind
 have q:j<N+1:=Z;have hb:a.li (j*3)<N:=by
  rcases qo (a.li (j*3)) 0 with h|h
  .omega
  .have:=(H.fo.k.a1 j Z Z G).1;trivial
 refine(Fq ((H.c.ah q1 I).ah o I) j p q g hb (by rw[H.at2];omega)).bu ?_;rintro v d m2 ⟨rfl,rfl,b,q3⟩;refine zS ?_;obtain⟨tt,htt⟩:=H.tt;have hfo:=H.fo.add (j:=j) (n:=p) (T:=tt) (by rcases z with h|⟨h,h2⟩;exact Z;exact .inr (H.nd h h2)) Z Z Z htt;refine E _ _ _ ⟨p,rfl,g,ho,⟨{a with sa:=sa',par:=cy a.par p (Q x),gi:=sT a.gi a.li j p,li:=vB a.li j p,t:=up a.t p tt},⟨T2.ah q3 I,P2.ah q3 I,(M.ah o I I).ah q3 I I,b,?_,?_,λi hi=>?_,λi hi=>?_,⟨tt+1,λi=>?_⟩,H.n1⟩⟩,?_⟩
 .show nf (sT a.gi a.li j p) 2=_;rw[aee,H.pa]
 .show Fo _ (nf (sT a.gi a.li j p) 0) (nf (sT a.gi a.li j p) 1) _ (nf (vB a.li j p) 1) (nf (vB a.li j p) 0) _;rw[aeg,aef,aed,aec];trivial
 .show vB a.li j p (i*3+2)=_;have A:=H.cn i hi;have h2:=H.cn j q;have h3:=wV P j N;have hn:=H.n1;rw[aeb,Ik];have h4:∀y:Int,0<=y->¬P p=y:=Z;by_cases e:i=j
  .subst e;rw[ao rfl,ao Z,ao rfl,aj Z,A,cB Z];omega
  omega
 .rw [pH];by_cases e:i=p
  .subst e;rw[ao rfl];unfold fB;grind
  .rw [aj Z];unfold fB;rw[aj e];exact H.lo i hi
 .show up a.t p tt i<tt+1;rw[pH];grind
 .exact (q1.trans o (S:=PF) (λ_ h=>.inr (.inl h)) (λ_ h=>.inl h)).trans q3 (λ_ h=>h) (λ_ h=>.inr (.inr (.inr h)))
def a4E{R:Rt}(H:fI own f m T N gen op cV P a)(hc:cV<N):
  Cl R.Y.Y.Y.Y 217 [.ptr T 0] f m (λv y L=>∃p:Nat,v= .cI [Q p,Q (gen p),.bool true]/\p<N/\op p=false/\(∃a',fI own y L T N gen (fB op p true) (cV+1) (up P p N) a')/\Fr PF own f m own y L):=by
 intro k c E;have e:=H.aT.obj;have F:=Cu H;have w:N<=9223372036854775807:=O8;have d:∀(R:Rt) (L:Nat) (k:cR),R.Y.call 283 [.ptr T 0] (.fn f L) k=k (Q N) (.fn f L):=λR L k=>by refine cUx func283 ?_;exact zC
 refine cUx func217 ?_;simp only[go_sem,F,d, ↓ag 296];apply(UE H hc N Z (-1)).bu;rintro v r l ⟨p,rfl,A,b,M,q⟩;refine zS ?_;grind
def ZB{R:Rt}(H:fI own f m T N gen op cV P a)(hc:cV<N)(j:Nat)(z:j<N)(b:op j=true):
  Cl R.Y.Y.Y.Y 222 [.ptr T 0,Q j] f m (λv y L=>∃p:Nat,v= .cI [Q p,Q (gen p),.bool true]/\p<N/\op p=false/\(∃a',fI own y L T N gen (fB op p true) (cV+1) (up P p j) a')/\Fr PF own f m own y L):=by
 intro k c E;have F:=HQ H j z;refine cUx func222 ?_;simp only[go_sem,F,b, ↓ag 296];apply(UE H hc j W j).bu;rintro v r l ⟨p,rfl,A,d,M,q⟩;refine zS ?_;grind
end
end
end Go.Ev.Sy
