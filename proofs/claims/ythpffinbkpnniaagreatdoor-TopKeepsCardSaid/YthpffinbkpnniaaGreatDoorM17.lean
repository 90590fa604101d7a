import Derived.Test.YthpffinbkpnniaaGreatDoorM16
set_option linter.all false
set_option maxRecDepth 100000
namespace Go.Ev.Sy
open Go Go.Ev Go.Proofs
open Tryz
noncomputable section
variable{i mm te:Nat}{q:aY}
def bs0(te:Nat)(zs:ay):fy:=⟨λ_ _ h k=>dh h [] 0 (λc=>lq [] 0 c (λc=>fH (.row te 0 0 true zs c) h (λi h=>k (.sl i 0 0 (.known 0)) h)))⟩
@[go_sem ↓]def aws(te:Nat)(zs R e f)(m:Nat)(k):(bs0 te zs).run R e (.fn f m) k=k (.sl m 0 0 (.known 0)) (.fn (bw f m (.row te 0 0 true zs (.cf (bI [])))) (pl m 1)):=by trivial
@[go_sem ↓]def ajT:cX K 215 0 []=bs0 222 [.num 0,.num 0]:=G
section
variable {own:aG} {c:Nat} {f:av} {m n:Nat} {v:V} {cs:ay}
def JM{R:Rt}(h:i7 f m 222 2 v n cs)(hn:n<=100000):
  Cl R.Y 309 [v] f m (λu y L=>Fs y m L 222 2 u n cs/\B f m y L):=by
 intro k c E;rcases h with⟨rfl,rfl,rfl⟩|⟨b,o,cp,a,t,w,p,g,rfl,N⟩
 .refine cUx func309 ?_;refine zS ?_;exact E _ _ _ ⟨.inl ⟨rfl,rfl,rfl⟩,B.refl _ _⟩
 .have h:i7 f m 222 2 (.sl b o n cp) n cs:=.inr ⟨b,o,cp,a,t,w,p,g,rfl,N⟩;have i:∀q,V.ot (.sl b o n cp) q=q false:=λq=>rfl;clear N;generalize V.sl b o n cp=v at h i;have H:=λq=>bN h.bC q;refine cUx func309 ?_;refine zS ?_;refine a9R ?_;intro F j;have P:B f m F (pl m 1):=by rw[j];exact(B.w (m2:=m) W W)
  rw[(h.gr P).src,←j];have e:bS (cm (λ_=>0) m [7]) 7 F (pl m 1) 222 2 (.sl m 0 0 (.known 0)) 0 []:=.inr ⟨m,0,.known 0,0,true,_,_,rfl,ez J3 rfl G,rfl,G,Z,Z,G⟩;refine dv e h.cells (λu hu=>?_) Z Z ?_
  .rcases h with⟨_,_,rfl⟩|⟨_,_,_,_,_,_,_,_,_,_,_,_,_,_,r⟩
   .trivial
   grind
  intro z M d C A l;rw[dz,mG] at A;simp only[go_sem,A.live];have s:∀x,x<m->cm (λ_=>0) m [7] x=0:=λx S=>by unfold cm;grind
  have l1:=P.le;exact E _ _ _ ⟨A.fs (λx S=>by rw[l.same x Z,s x S];decide),⟨W,λx S=>by rw[l.ah x Z W];exact P.ah x S⟩⟩
def Gi(x y:List (Int×Int)):ub (x++y)=ub x++ub y:=by unfold ub;grind
def Ti(a:List (Int×Int))(F:i<=a.length):ub (a.take i)=(ub a).take (i*2)/\ub (a.drop i)=(ub a).drop (i*2):=by
 have h:ub (a.take i)++ub (a.drop i)=ub a:=by rw[←Gi,uC]
 have t:(ub (a.take i)).length=i*2:=by rw[a79,uF];omega
 grind
def UQ{cp:Cp}{n o z b:Nat}(hc:IC cp n o z mm)(F:i<=n):mN cp (λp=>aR (Nat.ble i p) (cT z b o 0 i i q) false) (λ_ _=>aR (Nat.ble i n) (cT z b o 0 i i q) false)=q (.sl b o i (.known i)):=by
 have h:cT z b o 0 i i q=q (.sl b o i (.known i)):=by rw[vv,gP Z,gP Z,yr,j7]
 cases cp with
 |known p=>show aR (Nat.ble i p) _ false=_;rw[cw (cL F hc.1),h]
 |less d A=>show aR (Nat.ble i n) _ false=_;rw[cw F,h]
def bS.anP{z b o:Nat}{cp:Cp}(h:bS own c f m te z (.sl b o n cp) n cs)(F:i<=n):i7 f m te z (.sl b o i (.known i)) i (cs.take (i*z)):=by
 rcases(h.pre F).uf with⟨e,_⟩|⟨k,u,E,a,t,w,P,g,e,N⟩
 .cases e
 .cases e;exact .inr ⟨b,o,.known i,a,t,w,P,g,rfl,N⟩
def abr{R:Rt}{sp:List (Int×Int)}(h:bS own c f m 222 2 v sp.length (ub sp))(hl:sp.length<=10000)(a l:Int):
  Cl R.Y.Y.Y.Y 228 [v,.agg [Q a,Q l]] f m (λu y m'=>(u= .cI [.au,.bool false]\/∃nv sp',u= .cI [nv,.bool true]/\sp'.length=sp.length+1/\Fs y m m' 222 2 nv sp'.length (ub sp'))/\B f m y m'):=by
 intro k aEY E;have hI:=h.uf;rcases h with⟨rfl,e0,eC⟩|⟨vb,vo,vc,vm,vw,vz,vg,rfl,H⟩
 .have hN:∀F M,i7 F M 222 2 .au sp.length (ub sp):=λF M=>.inl ⟨rfl,e0,eC⟩;refine cUx func228 ?_;simp only[go_sem, ↓ag 305];refine aP ?_;intro F j;have q0:B f m F (pl m 1):=Vv;have a0:F m=(.row 222 2 0 true [.num 0,.num 0] (.cf (bI [Q a,Q l]))):=J3;apply(AY (hN _ _) Z).bu;rintro u f1 m1 ⟨⟨b,rfl⟩,P⟩;have n:=q0.trans P;have t:=(P.ah m W).trans a0;have hw:=sc a l;generalize spW a l=wb at hw;cases b with
  |false=>simp only[go_sem];grind
  |true=>
   cases wb with
   |false=>refine zS ?_;exact E _ _ _ ⟨W,(B.w (m2:=m1) Vh Q5)⟩
   |true=>
    have l1:=n.le;have e1:m≠m1:=Jd;simp only[go_sem,t,hw,e1, ↓ag 307];refine aP ?_;intro F2 xo;have q2:B f1 m1 F2 (pl m1 1):=Wc;have II:=n.trans q2;have a2:F2 m=(.row 222 2 0 true [.num 0,.num 0] (.cf (bI [Q a,Q l]))):=Xx;apply(JL (hN _ _) Z a).bu;rintro u N s ⟨⟨i,b2,rfl,hi⟩,p⟩;have hi0:Nat.beq i 0=true:=by have:i=0:=Z;rw[this];rfl
    have d1:¬(i:Int)<0:=Z;have d2:¬(0:Int)<i:=Z;have Dx:=II.trans p;have a3:=(p.ah m D6).trans a2;have e3:m≠s:=M7;have hi1:(i=0)=True:=W;simp only[go_sem,a3,e3,hi1,d1,d2, ↓ag 309];refine aP ?_;intro FF hFF;have qFF:B N s FF (pl s 1):=by rw[hFF];exact(B.w (m2:=s) Qc E1)
    have sFF:FF s=(.row 222 2 0 true [.num 0,.num 0] (.cf (bI [Q a,Q l]))):=Xy;have l03:=Dx.le;have aF:FF m=(.row 222 2 0 true [.num 0,.num 0] (.cf (bI [Q a,Q l]))):=by rw[hFF,aE e3];exact a3
    apply(JM (hN FF (pl s 1)) Z).bu;rintro nv fC mC ⟨hC,qC⟩;have sC:=(qC.ah s W).trans sFF;have aC:=(qC.ah m W5).trans aF;obtain⟨d,r,so⟩:=hC.to qC (λ_=>0) 7;refine zS ?_;refine dv (jE:=16) (n':=1) (lT:=[Q a,Q l]) so rfl ?_ Z Z ?_
    .intro u L;simp at L;rcases L with rfl|rfl<;>exact iW _
    intro v2 dm f2 C xj q2';refine dv (jE:=16) (n':=0) (lT:=[]) xj rfl (λu L=>by simp at L) Z Z ?_;intro v3 g9 f3' m3' hv3 q3';simp only[go_sem,hv3.live];have zr:∀x,x<pl s 1->d x=0:=λx S=>r.same x S;have lC:=qC.le;have l2':=q2'.le;have z2:∀x,x<pl s 1->dm x=0:=λx S=>by rw[q2'.same x Z];grind
    have g3:B N s f3' m3':=⟨by have:=q3'.le;unfold pl at *;omega,λx S=>by have rR:x<pl s 1:=W;rw[q3'.ah x Z W,q2'.ah x Z W,qC.ah x rR];exact qFF.ah x S⟩;have hf3:=hv3.fs (m:=m) (λx S=>by have rR:x<pl s 1:=W5;rw[q3'.same x Z,z2 x rR];decide);rw[e0,eC] at hf3;exact E _ _ _ ⟨.inr ⟨v3,[(a,l)],rfl,W,hf3⟩,Dx.trans g3⟩
 have h:bS own c f m 222 2 (.sl vb vo sp.length vc) sp.length (ub sp):=.inr ⟨vb,vo,vc,vm,vw,vz,vg,rfl,H⟩;have hcp:IC vc sp.length vo 2 vm:=W;clear H;refine cUx func228 ?_;simp only[go_sem,h.live, ↓ag 305];refine aP ?_;intro F j;have q0:B f m F (pl m 1):=Vv;have a0:F m=(.row 222 2 0 true [.num 0,.num 0] (.cf (bI [Q a,Q l]))):=J3;apply(AY (hI.gr q0) Z).bu;rintro u f1 m1 ⟨⟨b,rfl⟩,P⟩;have n:=q0.trans P;have t:=(P.ah m W).trans a0;have hw:=sc a l;generalize spW a l=wb at hw;cases b with
 |false=>simp only[go_sem];grind
 |true=>
  cases wb with
  |false=>refine zS ?_;exact E _ _ _ ⟨W,(B.w (m2:=m1) Vh Q5)⟩
  |true=>
   have l1:=n.le;have e1:m≠m1:=Jd;simp only[go_sem,t,hw,h.live,e1, ↓ag 307];refine aP ?_;intro F2 xo;have q2:B f1 m1 F2 (pl m1 1):=Wc;have II:=n.trans q2;have a2:F2 m=(.row 222 2 0 true [.num 0,.num 0] (.cf (bI [Q a,Q l]))):=Xx;apply(JL (hI.gr II) Z a).bu;rintro u N s ⟨⟨i,b2,rfl,hi⟩,p⟩;have Dx:=II.trans p;have a3:=(p.ah m D6).trans a2;have tI:=λq=>h.jD Z q;have e3:m≠s:=by have:=Dx.le;have:=p.le;unfold pl at *;omega
   have suf:=λb q=>UO (l:=i) (b:=b) (q:=q) hcp hi;have ZV:=λb q=>UQ (i:=i) (b:=b) (q:=q) hcp hi;have lmT:m<s:=M7;refine(kf ((i:Int)<sp.length)).elim (λc1=>?A) (λc1=>?aF1)
   case' A=>
    obtain⟨b,o,cp,mm,fz,w,z,g,ee,hb,hf,nz,h0,h1⟩:=yF (hI.gr Dx) (show i<sp.length by omega);cases ee;have hi3:i<sp.length:=Z;simp only[go_sem,a3,tI,c1,hf,nz,h0,h1,hi3, ↓ag 308];apply(Gh sp[i].1 sp[i].2 a l N s).bu;rintro u f4 m4 ⟨⟨b4,rfl⟩,q4⟩;have a4:=(q4.ah m lmT).trans a3;refine(Od b4).elim (λhb4=>?A1) (λhb4=>?A2)
    case' A1=>refine zS ?_;exact E _ _ _ ⟨W,Dx.trans q4⟩
    case' A2=>refine(kf ((0:Int)<i)).elim (λc2=>?A3) (λc2=>?A4)
    case' A3=>obtain⟨b',o',cp',mm',fz',w',z',g',ee,hb',hf',YI,h0',h1'⟩:=yF (hI.gr (Dx.trans q4)) (show i-1<sp.length by omega);cases ee;have ew:IntKind.i64.wrap ((i:Int)-1)=((i-1:Nat):Int):=Ql;have hi4:i-1<sp.length:=Z;simp only[go_sem,hb4,a4,c2,ew,hf',YI,h0',h1',hi4, ↓ag 308];apply(Gh sp[i-1].1 sp[i-1].2 a l f4 m4).bu;rintro u fT mT ⟨⟨b5,rfl⟩,q5⟩;have qT:=(Dx.trans q4).trans q5;refine(Od b5).elim (λhb5=>?A5) (λhb5=>?A6)
    case' A5=>simp only[go_sem,hb5];grind
    case' A6=>
     have aT:=(q5.ah m (bW lmT q4.le)).trans a4;have eT:m≠mT:=by have:=q4.le;have:=q5.le;omega
     simp only[go_sem,hb5,aT,eT, ↓ZV, ↓suf, ↓ag 309]
    case' A4=>
     obtain⟨fT,rfl⟩:∃x,x=f4:=W;obtain⟨mT,rfl⟩:∃x,x=m4:=W;have qT:=Dx.trans q4;have aT:=a4;have eT:m≠mT:=by have:=q4.le;omega
     simp only[go_sem,hb4,c2,aT,eT, ↓ZV, ↓suf, ↓ag 309]
   case' aF1=>refine(kf ((0:Int)<i)).elim (λc2=>?B1) (λc2=>?B2)
   case' B1=>obtain⟨b,o,cp,mm',fz',w',z',g',ee,hb',hf',YI,h0',h1'⟩:=yF (hI.gr Dx) (show i-1<sp.length by omega);cases ee;have ew:IntKind.i64.wrap ((i:Int)-1)=((i-1:Nat):Int):=Ql;have hi4:i-1<sp.length:=Z;simp only[go_sem,a3,tI,c1,c2,ew,hf',YI,h0',h1',hi4, ↓ag 308];apply(Gh sp[i-1].1 sp[i-1].2 a l N s).bu;rintro u fT mT ⟨⟨b5,rfl⟩,q5⟩;have qT:=Dx.trans q5;refine(Od b5).elim (λhb5=>?B3) (λhb5=>?B4)
   case' B3=>simp only[go_sem,hb5];grind
   case' B4=>
    have aT:=(q5.ah m lmT).trans a3;have eT:m≠mT:=by have:=q5.le;omega
    simp only[go_sem,hb5,aT,eT, ↓ZV, ↓suf, ↓ag 309]
   case' B2=>obtain⟨fT,rfl⟩:∃x,x=N:=W;obtain⟨mT,rfl⟩:∃x,x=s:=W;have qT:=Dx;have aT:=a3;have eT:m≠mT:=Z;simp only[go_sem,a3,tI,c1,c2,eT, ↓ZV, ↓suf, ↓ag 309]
   all_goals
    refine aP ?_;intro FF hFF;have qFF:B fT mT FF (pl mT 1):=by rw[hFF];exact(B.w (m2:=mT) Qc E1)
    have sFF:FF mT=(.row 222 2 0 true [.num 0,.num 0] (.cf (bI [Q a,Q l]))):=Xy;apply(JM ((h.anP hi).gr (qT.trans qFF)) Z).bu;rintro nv fC mC ⟨hC,qC⟩;have sC:=(qC.ah mT W).trans sFF;obtain⟨d,r,so⟩:=hC.to qC (λ_=>0) 7;have aC:fC m=(.row 222 2 0 true [.num 0,.num 0] (.cf (bI [Q a,Q l]))):=(qC.ah m Xi).trans (by rw[hFF,aE eT];trivial);refine zS ?_;refine dv (jE:=16) (n':=1) (lT:=[Q a,Q l]) so rfl ?_ Z Z ?_
    .intro u L;simp at L;rcases L with rfl|rfl<;>exact iW _
    intro v2 dm f2 C xj q2;have zr:∀x,x<pl mT 1->d x=0:=λx S=>r.same x S;have g2:B FF (pl mT 1) f2 C:=⟨by have:=qC.le;have:=q2.le;omega,λx S=>by rw[q2.ah x (bW S qC.le) W];exact qC.ah x S⟩;have z2:∀x,x<pl mT 1->dm x=0:=λx S=>by rw[q2.same x (bW S qC.le)];grind
    have gT:=(qT.trans qFF).trans g2;have a8m:=(h.suf hi).uf.gr gT;have hsn:=a8m.bC;rw[a8m.src];refine dv (jE:=16) xj a8m.cells ?_ Z Z ?_
    .intro u L;rcases a8m with⟨_,_,e⟩|⟨_,_,_,_,_,_,_,_,_,_,_,_,_,_,h7⟩
     .grind
     grind
    intro v3 g9 f3' m3' hv3 q3';simp only[go_sem,hv3.live];have g3:B fT mT f3' m3':=⟨by have:=g2.le;have:=q3'.le;unfold pl at *;omega,λx S=>by have rR:x<pl mT 1:=W;rw[q3'.ah x (bW rR g2.le) W,g2.ah x rR];exact qFF.ah x S⟩;have e5:ub (sp.take i++ [(a,l)]++sp.drop i)=(ub sp).take (i*2)++ [Q a,Q l]++(ub sp).drop (i*2):=by rw[Gi,Gi,(Ti sp hi).1,(Ti sp hi).2];rfl
    have el:(sp.take i++ [(a,l)]++sp.drop i).length=i+1+(sp.length-i):=Y6;refine E _ _ _ ⟨.inr ⟨v3,sp.take i++ [(a,l)]++sp.drop i,rfl,by rw[el];omega,?_⟩,qT.trans g3⟩;rw[el,e5];refine(hv3.fs (m:=m) (λx S=>?_));have rR:x<pl mT 1:=Xi;rw[q3'.same x (bW rR g2.le),z2 x rR];decide
end
section
variable {f:av} {m:Nat} {v:V} {sp:List (Int×Int)}
def a1S(x a l:Int)(b:Nat):∃t:Bool,∀(R:Rt) (f:av) (m:Nat) (k:cR),f b=(.row 3 1 0 true [.num 0] (.cf (bI [Q x])))->b≠m->R.Y.call 319 [.agg [Q a,Q l],.ptr b 0] (.fn f m) k=k (.bool t) (.fn (bw f m (.row 222 2 0 true [.num 0,.num 0] (.cf (bI [Q a,Q l])))) (pl m 1)):=by
 by_cases c1:a<=x
 .by_cases c2:IntKind.i64.wrap (x-a)<l
  .refine ⟨true,λR f m k s g=>?_⟩;refine cUx func319 ?_;exact zC
  .refine ⟨false,λR f m k s g=>?_⟩;refine cUx func319 ?_;exact zC
 .refine ⟨false,λR f m k s g=>?_⟩;refine cUx func319 ?_;exact zC
def a78{R:Rt}(h:i7 f m 222 2 v sp.length (ub sp))(hl:sp.length<=4096)(x:Int):
  Cl R.Y.Y.Y.Y 236 [v,Q x] f m (λu y L=>(∃i:Int,u=Q i/\i<sp.length)/\B f m y L):=by
 intro k c E;have H:=λq=>bN h.bC q;refine cUx func236 ?_;simp only[go_sem,H, ↓ag 305];refine aP ?_;intro F hF;have q0:B f m F (pl m 1):=Vw;have a0:F m=(.row 3 1 0 true [.num 0] (.cf (bI [Q x]))):=O2;apply(AY (h.gr q0) Z).bu;rintro u r l ⟨⟨b,rfl⟩,P⟩;have n:=q0.trans P;have a:m<l:=T4;have t:=(P.ah m W).trans a0;cases b with
 |false=>refine zS ?_;grind
 |true=>
  have s:=λi:Nat=>a1S x (sp[i]?.getD (0,0)).1 (sp[i]?.getD (0,0)).2 m;have s:=Classical.choice ⟨Classical.axiomOfChoice s⟩;obtain⟨e,s⟩:=s;simp only[go_sem,H, ↓ag 318];refine(QN (h.gr n) Z (λi j=>if j=0 then(sp[i]?.getD (0,0)).1 else(sp[i]?.getD (0,0)).2) ?_ 319 G [.ptr m 0] e ?_).bu ?_
  .intro i hi j z;have S:=a1T sp i hi;grind
  .intro i hi F M p k2 T2 Us;have g:=(p.ah m a).trans t;have e2:m≠M:=by have:=p.le;omega
   refine(s i R.Y F M k2 g e2).trans ?_;exact Us _ _ _ ⟨rfl,(B.w (m2:=M) Qc E1)⟩
  rintro u d C ⟨rfl,o⟩;refine zS ?_;refine E _ _ _ ⟨⟨_,rfl,?_⟩,n.trans o⟩;rcases iZ e 0 sp.length with⟨A,_⟩|⟨j,_,A,_,N,_⟩
  .omega
  omega
end
end
end Go.Ev.Sy
namespace Go.Ev.Sy
open Go Go.Ev Go.Proofs
noncomputable section
variable{c t:Nat}
def Wt{l:List (Int×V×Nat)}{x:Int}{v:V}(h:cC l x=some v):∃pre b post,l=pre++(x,v,b)::post/\cC pre x=none:=by
 induction l with
 |nil=>cases h
 |cons p l H=>
  obtain⟨a,u,b⟩:=p;unfold cC at h;split at h
  .rename_i e;cases h;subst e;exact⟨[],b,l,rfl,rfl⟩
  .rename_i e;obtain⟨pre,d,post,A,N⟩:=H h;exact⟨(a,u,b)::pre,d,post,W,by unfold cC;grind⟩
def ZD{pre r:List (Int×V×Nat)}{x:Int}(h:cC pre x=none)(i:Nat)(iU:Bool)(hit:Nat->V->bs):mz (pre++r) x i iU hit=mz r x (i+pre.length) iU hit:=by
 induction pre generalizing i with
 |nil=>rfl
 |cons p l H=>
  obtain⟨a,v,b⟩:=p;unfold cC at h;split at h
  .cases h
  .rename_i e;rw[FO,vi,aj e,H h,kg];grind
def a3i{pre post:List (Int×V×Nat)}{x:Int}{v:V}{b:Nat}(h:cC pre x=none)(w)(c:Nat):eJ (pre++(x,v,b)::post) x w c=pre++(x,w,b)::post:=by
 induction pre with
 |nil=>show(if x=x then _ else _)=_;grind
 |cons p l H=>
  obtain⟨a,u,d⟩:=p;unfold cC at h;split at h
  .cases h
  .rename_i e;show(if a=x then _ else _)=_;rw[aj e];exact congrArg _ (H h)
def a9p{pre post:List (Int×V×Nat)}{x:Int}{v:V}{b:Nat}(g:∀p∈pre,p.2.2≠b)(hit:Nat->aY):UY b (enc (pre++(x,v,b)::post)) hit=hit pre.length (Q x):=by
 have key:∀(pre:List (Int×V×Nat)) (i:Nat),(∀p∈pre,p.2.2≠b)->cE (λ(_:Nat)=>false) (λy _ r i=>gK y (λq k=>gK k (λ_ c=>aR (Nat.beq c b) (hit i q) (gy (Nat.add i 1) r)))) (enc (pre++(x,v,b)::post)) i=hit (i+pre.length) (Q x):=by
  intro pre
  induction pre with
  |nil=>intro i _;show aR (Nat.beq b b) (hit i (Q x)) _=_;rw[fP];rfl
  |cons p l H=>intro i h;obtain⟨a,u,d⟩:=p;have s:d≠b:=h _ (ko ..);show aR (Nat.beq d b) _ (cE (λ(_:Nat)=>false) _ (enc (l++(x,v,b)::post)) (i+1))=_;rw[pO,kM s,ET,H (i+1) W,kg];grind
 have:=key pre 0 g;rw[dz] at this;trivial
def TZ{z:V}(hc:DE t z)(C:z≠ .undef){l:List (Int×V×Nat)}(w:Wf l c)(hl:∀x v,cC l x=some v->v≠ .undef)(x:Int):∃(v0:V) (b:Nat) (d:List (Int×V×Nat)) (c1:Nat),
  (∀(i:Nat) (f:av) (n:Nat) (k:cR),f i= .map (enc l) c->men t z (.map i) (Q x) (.fn f n) k=k (.cI [v0,.ik .i64 b]) (.fn (bw f i (.map (enc d) c1)) n))/\
  ∀(i:Nat) (f:av) (n:Nat) (k:cR) (v:V),v≠ .undef->f i= .map (enc d) c1->mes (.map i) (.ik .i64 b) v (.fn f n) k=k cA (.fn (bw f i (.map (enc (eJ l x v c)) (im l x c))) n):=by
 cases S:cC l x with
 |none=>
  refine⟨z,c,eJ l x z c,c+1,λi f n k H=>TY hc C H S k,λi f n k v a H=>?_⟩;have e:im l x c=c+1:=by unfold im;rw[ao S]
  rw[TX a H S w k,e]
 |some v0=>
  obtain⟨pre,b,post,F,g⟩:=Wt S;have e:im l x c=c:=by unfold im;rw[S];rfl
  refine⟨v0,b,l,c,λi f n k H=>?_,λi f n k v a H=>?_⟩
  .obtain ⟨E,A,o,M⟩:=hc;show O.cH (f i) _=_;rw[H];show V.live (Q x) _=_;rw[r0,pU M]
   conv=>lhs;rw[F]
   rw[ZD g,vi,ao rfl,vW,dz,a0Z _ _ Z,mH,FK,←F];rfl
  .show O.cH (f i) _=_;rw[H];show V.live v _=_;have m:∀p∈pre,p.2.2≠b:=λp j h=>by
    have N:=w.stamps;rw[F,iH,List.pairwise_append] at N;have:=N.2.2 _ (fA.2 ⟨p,j,rfl⟩) b J1;omega
   rw[bN a,F,a9p m,vW,a0Z _ _ Z,mH,FK,a3i g,←F,e];rfl
end
end Go.Ev.Sy
namespace Go.Ev.Sy
open Go Go.Ev Go.Proofs
open Tryz
noncomputable section
variable{h:Heap}
def To(m n:Nat)(hn:n<=62)(h:m*2^n<=9223372036854775807)(q:aY):IF (nb .shl) (Q (m:Int)) (Q (n:Int)) q=q (Q ((m*2^n:Nat):Int)):=by have R:m<=9223372036854775807:=cL (Nat.le_mul_of_pos_right m W) h;rw[eD R,eD (n:=n) N3];show aR (Nat.ble n 62) (aR (Nat.ble (Nat.shiftLeft m n) cO) (q (.num (Nat.shiftLeft m n))) _) _=_;rw[show Nat.shiftLeft m n=m*2^n from Nat.shiftLeft_eq m n,cw hn,cw (b:=cO) h,eD h]
def Tm(m n:Nat)(R:m<=9223372036854775807)(hn:n<=62)(q:aY):IF (nb .shr) (Q (m:Int)) (Q (n:Int)) q=q (Q ((m/2^n:Nat):Int)):=by rw[eD R,eD (n:=n) N3];show q (.num (Nat.shiftRight m n))=_;have N:m/2^n<=9223372036854775807:=cL (AA _ _) R;rw[show Nat.shiftRight m n=m/2^n from Oj m n,eD N]
def akf(m n:Nat)(R:m<=9223372036854775807)(hn:n<=9223372036854775807)(q:aY):rF (nb .and) (Q (m:Int)) (Q (n:Int)) q=q (Q ((m &&& n:Nat):Int)):=by rw[eD R,eD hn];show q (.num (m &&& n))=_;rw[eD (cL FH R)]
def akg(m:Nat):m &&& 1048575=m%1048576:=Nat.and_two_pow_sub_one_eq_mod m 20
def fD{f:Nat}{a:Code}{R:Rt}{rd:Nat}{ds:List D}{e:Env}{j:X->cF}{T:Bool}(n:Nat)(s:iB f a R rd ds e h (λds e h=>Lj f a R rd ds e h j n) j=T):Lj f a R rd ds e h j (n+1)=T:=s
def kN(k p g o:Nat):Nat:=k*1152921504606846976+p*1099511627776+g*1048576+o
def wE(R:Rt)(f)(m:Nat):Cl R.Y 284 [] f m (λv y L=>v= .agg [Q 60,Q 1,Q 3,Q 40,Q 0,Q 1048575,Q 20,Q 0,Q 1048575,Q 0,Q 0,Q 1048575]/\B f m y L):=by intro k S E;refine cUx func284 ?_;refine zS ?_;grind
def ahp{f:Nat}{a:Code}{R:Rt}{rd:Nat}{ds:List D}{e:Env}{j:X->cF}{T:Bool}(s:Lj f a R rd ds e h j (999995+1+1+1+1+1)=T):Lj f a R rd ds e h j iq=T:=s
def oC(k0 p g o:Nat)(h0:1<=k0/\k0<=3)(hp:p<=1048575)(hg:g<=1048575)(ho:o<=1048575)(R:Rt)(f)(m:Nat):Cl R.Y.Y 205 [Q k0,Q p,Q g,Q o] f m (λv y L=>v= .cI [Q (kN k0 p g o),Q 0]/\B f m y L):=by
 intro k S E;refine cUx func205 ?_;simp only[go_sem, ↓ag 284];apply(wE R _ _).bu;rintro v r l ⟨rfl,P⟩;have hle:=P.le;have H:m≠l:=W;have N:m≠pl l 1:=W;have h:m≠pl l 2:=W;have n_3:m≠pl l 3:=W;refine zS ?_;have t:(1:Int)<=k0:=Z;have i:(k0:Int)<=3:=Z;have n:(0:Int)<=p:=Z;have M:(p:Int)<=1048575:=Z;have b:(0:Int)<=g:=Z;have F:(g:Int)<=1048575:=Z;have c:(0:Int)<=o:=Z;have d:(o:Int)<=1048575:=Z;have e:∀q,IF (nb .shl) (Q k0) (Q 60) q=q (Q (k0*1152921504606846976:Nat)):=λq=>To k0 60 I Z q;have j:∀q,IF (nb .shl) (Q p) (Q 40) q=q (Q (p*1099511627776:Nat)):=λq=>To p 40 I Z q;have z:∀q,IF (nb .shl) (Q g) (Q 20) q=q (Q (g*1048576:Nat)):=λq=>To g 20 I Z q;have s3:∀q,IF (nb .shl) (Q o) (Q 0) q=q (Q o):=λq=>by have:=To o 0 I Z q;grind
 have a:IntKind.i64.wrap (0+((k0*1152921504606846976:Nat):Int))=((k0*1152921504606846976:Nat):Int):=Ql;have w1:IntKind.i64.wrap (((k0*1152921504606846976:Nat):Int)+((p*1099511627776:Nat):Int))=((k0*1152921504606846976+p*1099511627776:Nat):Int):=Qf;have w2:IntKind.i64.wrap (((k0*1152921504606846976+p*1099511627776:Nat):Int)+((g*1048576:Nat):Int))=((k0*1152921504606846976+p*1099511627776+g*1048576:Nat):Int):=Qf;have w3:IntKind.i64.wrap (((k0*1152921504606846976+p*1099511627776+g*1048576:Nat):Int)+(o:Int))=(kN k0 p g o:Int):=by rw[cB Z];unfold kN;omega
 have u:IntKind.i64.wrap (0+1)=1:=I;have s:IntKind.i64.wrap (1+1)=2:=I;have A:IntKind.i64.wrap (2+1)=3:=I;have C:IntKind.i64.wrap (3+1)=4:=I;refine ahp ?_;refine fD _ ?_;unfold iB;simp only[go_sem,P.ah,H,t,i,e,a,u];refine fD _ ?_;unfold iB;simp only[go_sem,P.ah,H,N,n,M,j,w1,s];refine fD _ ?_;unfold iB;simp only[go_sem,P.ah,H,N,h,b,F,z,w2,A];refine fD _ ?_;unfold iB;simp only[go_sem,P.ah,H,N,h,n_3,c,d,s3,w3,C];refine fD _ ?_;unfold iB;refine zS ?_;exact E _ _ _ ⟨rfl,B.trans (B.w (m2:=m) Qc E1) (P.trans (B.w (m2:=l) Qd E1))⟩
def hOk(h:Int):Prop:=0<=h/\1<=h.toNat/1152921504606846976/\h.toNat/1152921504606846976<=3
instance (h:Int):Decidable (hOk h):=by unfold hOk;infer_instance
def hK(h:Int):Nat:=h.toNat/1152921504606846976
def hP(h:Int):Nat:=h.toNat/1099511627776%1048576
def hG(h:Int):Nat:=h.toNat/1048576%1048576
def hO(h:Int):Nat:=h.toNat%1048576
def vh(h:Int)(hh:h<=9223372036854775807)(R:Rt)(f)(m:Nat):Cl R.Y.Y 235 [Q h] f m (λv y L=>v=(if hOk h then .cI [Q (hK h),Q (hP h),Q (hG h),Q (hO h),.bool true] else .cI [Q 0,Q 0,Q 0,Q 0,.bool false])/\B f m y L):=by
 intro k T E;by_cases s:h<0
 .rw [aj (λA=>by have:=A.1;omega)] at E;refine cUx func235 ?_;refine zS ?_;grind
 obtain⟨n,rfl⟩:∃n:Nat,h=n:=⟨h.toNat,Z⟩;have g:n<=9223372036854775807:=Z;have c:((n:Int)).toNat=n:=rfl;refine cUx func235 ?_;simp only[go_sem,s, ↓ag 284];apply(wE R _ _).bu;rintro v r l ⟨rfl,P⟩;have hle:=P.le;have i:B f m r l:=B.trans (B.w (m2:=m) W W) P;have H:m≠l:=W;have N:m≠pl l 1:=W;have o:m≠pl l 2:=W;have p:m≠pl l 3:=W;refine zS ?_;have e:∀q,IF (nb .shr) (Q n) (Q 60) q=q (Q (n/1152921504606846976:Nat)):=λq=>Tm n 60 g I q;have j:∀q,IF (nb .shr) (Q n) (Q 40) q=q (Q (n/1099511627776:Nat)):=λq=>Tm n 40 g I q;have z:∀q,IF (nb .shr) (Q n) (Q 20) q=q (Q (n/1048576:Nat)):=λq=>Tm n 20 g I q;have s3:∀q,IF (nb .shr) (Q n) (Q 0) q=q (Q n):=λq=>by have:=Tm n 0 g I q;grind
 have d1:∀(x:Nat) q,x<=9223372036854775807->rF (nb .and) (Q x) (Q 1048575) q=q (Q (x%1048576:Nat)):=λx q S=>by have:=akf x 1048575 S I q;rw[akg] at this;trivial
 have t1:=λq=>d1 (n/1099511627776) q Z;have t2:=λq=>d1 (n/1048576) q Z;have t3:=λq=>d1 n q g;have u:IntKind.i64.wrap (0+1)=1:=I;have b:IntKind.i64.wrap (1+1)=2:=I;have t:IntKind.i64.wrap (2+1)=3:=I;have C:IntKind.i64.wrap (3+1)=4:=I;have F:¬(((n/1099511627776%1048576:Nat):Int)<0):=Z;have a:¬((1048575:Int)<((n/1099511627776%1048576:Nat):Int)):=Z;have l3:¬(((n/1048576%1048576:Nat):Int)<0):=Z;have l4:¬((1048575:Int)<((n/1048576%1048576:Nat):Int)):=Z;have l5:¬(((n%1048576:Nat):Int)<0):=Z;have d:¬((1048575:Int)<((n%1048576:Nat):Int)):=Z;refine ahp ?_;refine fD _ ?_;unfold iB;by_cases c1:n/1152921504606846976<1
 .have c1:((n/1152921504606846976:Nat):Int)<1:=by omega
  rw[aj (λA=>by have:=A.2.1;omega)] at E;simp only[go_sem,P.ah,H,H.symm,e,c1];grind
 have c1:¬((n/1152921504606846976:Nat):Int)<1:=Z;by_cases c2:3<n/1152921504606846976
 .have c2:(3:Int)<((n/1152921504606846976:Nat):Int):=by omega
  rw[aj (λA=>by have:=A.2.2;omega)] at E;simp only[go_sem,P.ah,H,H.symm,e,c1,c2];grind
 have c2:¬(3:Int)<((n/1152921504606846976:Nat):Int):=Z;rw[ao ⟨Z,by rw[c];omega,by rw[c];omega⟩] at E;simp only[go_sem,P.ah,H,H.symm,e,c1,c2,u];refine fD _ ?_;unfold iB;simp only[go_sem,N,N.symm,j,t1,b,F,a];refine fD _ ?_;unfold iB;simp only[go_sem,o,o.symm,z,t2,t,l3,l4];refine fD _ ?_;unfold iB;simp only[go_sem,p,p.symm,s3,t3,C,l5,d];refine fD _ ?_;unfold iB;refine zS ?_;exact E _ _ _ ⟨rfl,(B.w (m2:=l) (by repeat (first|exact i|refine B.bw ?_ V8)) V8)⟩
variable{gen:aG}{y:av}
def a9g(h:Int):Prop:=hOk h/\hK h=1/\hO h=0
def gU(gen:aG)(op:bs)(h:Int):Prop:=a9g h/\op (hP h)=true/\gen (hP h)=hG h
instance (h:Int):Decidable (a9g h):=by unfold a9g;infer_instance
instance (gen:aG) (op:bs) (h:Int):Decidable (gU gen op h):=by unfold gU;infer_instance
def wY(gen:aG)(op:bs)(h:Int):Int:=if gU gen op h then 0 else if a9g h then 4 else 3
def rB{op:bs}{h:Int}(c:¬gU gen op h):wY gen op h≠0:=by unfold wY;grind
@[grind cases] structure fq(own:aG)(f:av)(m L n:Nat)(gen:aG)(op:bs)(cV:Nat)(acc:Nat->Acc)(A:Nat)(a:xg):Prop where
 aL:At own 9 f m L (.row 207 2 0 true [.num 0,.bg] (.cf (bI [Q n,.ptr A 0])))
 s:jC own f m A gen op cV acc a
 n1:1<=n
 n2:n<=64
 cl:∀p,op p=true->(acc p).c<=n
section
variable {own:aG} {f:av} {m L n cV A:Nat} {gen:aG} {op:bs} {acc:Nat->Acc} {a:xg}
def fq.ah{P:dF}{t:aG}{b:Nat}(h:fq own f m L n gen op cV acc A a)(q:Fr P own f m t y b)(g:¬P 9/\¬P 32/\¬P 33/\¬P 34):fq t y b L n gen op cV acc A a:=
 ⟨h.aL.ah q W,h.s.ah q g,h.n1,h.n2,h.cl⟩
@[grind →] theorem fq.gr{b:Nat}(h:fq own f m L n gen op cV acc A a)(q:B f m y b):fq own y b L n gen op cV acc A a:=h.ah (q.fr own (λ_=>False)) G
def Ho(H:fq own f m L n gen op cV acc A a)(R:Rt)(b:Nat)(k):R.Y.call 70 [.ptr L 0] (.fn f b) k=k (.bool true) (.fn f b):=by have c:=H.aL.obj;refine cUx func70 ?_;exact zC
def yc{R:Rt}(H:fq own f m L n gen op cV acc A a)(h:Int)(g:h<=9223372036854775807):
  Cl R.Y.Y.Y 202 [.ptr L 0,Q h] f m (λv y j=>v=(if gU gen op h then .cI [Q (hP h),Q (hG h),Q 0] else .cI [Q 0,Q 0,Q (wY gen op h)])/\B f m y j):=by
 intro k S E;have F:=Ho H;refine cUx func202 ?_;simp only[go_sem,F, ↓ag 235];apply(vh h g _ f m).bu;rintro v r l ⟨rfl,P⟩;by_cases b:hOk h
 case neg=>
  rw[aj b];have e:wY gen op h=3:=by unfold wY;rw[aj (λc=>b c.1.1),aj (λc=>b c.1)]
  rw[aj (λc=>b c.1.1),e] at E;simp only[go_sem];grind
 rw[ao b];by_cases N:hK h=1
 case neg=>
  have e:wY gen op h=3:=by unfold wY;rw[aj (λc=>N c.1.2.1),aj (λc=>N c.2.1)]
  rw[aj (λc=>N c.1.2.1),e] at E;have c:¬((hK h:Int)=1):=Z;simp only[go_sem,c];grind
 by_cases M:hO h=0
 case neg=>
  have e:wY gen op h=3:=by unfold wY;rw[aj (λc=>M c.1.2.2),aj (λc=>M c.2.2)]
  rw[aj (λc=>M c.1.2.2),e] at E;have c2:((hK h:Int)=1):=Z;have c:¬((hO h:Int)=0):=Z;simp only[go_sem,c2,c];grind
 have c2:((hK h:Int)=1):=Z;have c3:((hO h:Int)=0):=Z;have i:=(H.gr P).aL.obj;simp only[go_sem,c2,c3,i, ↓ag 280];apply(Df (H.gr P).s (hP h) (hG h) _).bu;rintro v d C ⟨rfl,o⟩;have p:=P.trans o;by_cases u:op (hP h)=true/\gen (hP h)=hG h
 .rw [ao ⟨by omega,u.1,congrArg _ u.2⟩];rw[ao G] at E;unfold Acc.v Acc.cs;refine zS ?_;exact E _ _ _ ⟨rfl,(B.w (m2:=C) Qk E9)⟩
 .rw [aj (λc=>u ⟨c.2.1,Int.ofNat_inj.1 c.2.2⟩)];have e:wY gen op h=4:=by unfold wY;rw[aj (λc=>u c.2),ao G]
  rw[aj (λc=>u c.2),e] at E;rw[vC];refine zS ?_;exact E _ _ _ ⟨rfl,(B.w (m2:=C) Qk E9)⟩
def qZ{R:Rt}(H:fq own f m L n gen op cV acc A a)(h:Int)(g:h<=9223372036854775807):
  Cl R.Y.Y.Y.Y 133 [.ptr L 0,Q h] f m (λv y b=>v=(if gU gen op h then .cI [Q (hP h),Q 0] else .cI [Q 0,Q (wY gen op h)])/\B f m y b):=by
 intro k S E;refine cUx func133 ?_;simp only[go_sem, ↓ag 202];apply(yc H h g).bu;rintro v r l ⟨rfl,P⟩;by_cases c:gU gen op h
 .rw [ao c] at E ⊢;simp only[go_sem];grind
 .rw [aj c] at E ⊢;simp only[go_sem];grind
def nq{R:Rt}(H:fq own f m L n gen op cV acc A a):
  Cl R.Y.Y.Y.Y 43 [.ptr L 0] f m (λv y b=>B f m y b/\∃os:aI,os.Pairwise (· < ·)/\(∀x,x∈os↔op x=true)/\os.length<=64/\i7 y b 149 4 v os.length (fM acc os)/\Nw m v):=by
 intro k S E;have F:=Ho H;have c:=H.aL.obj;refine cUx func43 ?_;simp only[go_sem,F,c, ↓ag 71];apply(Iy H.s).bu;rintro v r l ⟨P,os,h⟩;simp only[go_sem,bN h.2.2.2.1.bC];grind
end
section
variable {own:aG} {f:av} {m L n cV A:Nat} {gen:aG} {op:bs} {acc:Nat->Acc} {a:xg}
def SD(n:Nat)(N:n<=64)(c:Int)(R:Rt)(f)(m:Nat)(k):R.Y.call 277 [Q n,Q c] (.fn f m) k=k (.bool (decide (1<=c/\c<=n))) (.fn f m):=by
 rw[od];have c3:(n:Int)<=1048576:=Z;by_cases c1:1<=c<;>by_cases c2:c<=n
 all_goals
  refine cUx func277 ?_;exact zC
def DF{R:Rt}(H:fq own f m L n gen op cV acc A a)(c:Int)(i:cV<64)(hg:∀p,gen p<=1048575):
  Cl R.Y.Y.Y.Y.Y 200 [.ptr L 0,Q c] f m (λv y b=>if 1<=c/\c<=n then ∃p,v= .cI [Q (kN 1 p (gen p) 0),Q 0]/\op p=false/\p<64/\(∃a',fq own y b L n gen (fB op p true) (cV+1) (kq acc p ⟨c,0,0⟩) A a')/\Fr PA own f m own y b else v= .cI [Q 0,Q 2]/\B f m y b):=by
 intro k S E;have z:=Ho H;have x:=H.aL.obj;have N:=SD n H.n2 c;have q:=H.n2;by_cases F:1<=c/\c<=n
 case neg=>rw[dB F] at N;simp only[aj F] at E;refine cUx func200 ?_;refine zS ?_;exact E _ _ _ ⟨rfl,B.refl _ _⟩
 rw[dI F] at N;simp only[ao F] at E;refine cUx func200 ?_;simp only[go_sem,z,x,N, ↓ag 278];apply(a0o H.s c i).bu;rintro v u l j;rw[ao Z] at j;obtain⟨p,rfl,ho,g,⟨a',M⟩,P⟩:=j;simp only[go_sem, ↓ag 205];apply(oC 1 p (gen p) 0 G Z W I _ u l).bu;rintro v w C ⟨rfl,o⟩;refine zS ?_;have t:Fr PA own f m own w C:=P.trans (o.fr own (λ_=>False)) (λ_ h=>h) (λ_ h=>G);refine E _ _ _ ⟨p,rfl,ho,g,⟨a',⟨H.aL.ah t (by unfold PA;decide),M.gr o,H.n1,H.n2,λr d=>?_⟩⟩,t⟩;by_cases e:r=p
 .subst e;rw[dQ];grind
 .rw [gI e];rw[dn e] at d;exact H.cl r d
def Lw{R:Rt}(H:fq own f m L n gen op cV acc A a)(h:Int)(g:h<=9223372036854775807)(hc:gU gen op h)(z:∀p,gen p<=1048575):
  Cl R.Y.Y.Y.Y 208 [.ptr L 0,Q h] f m (λv y i=>if 0<(acc (hP h)).h+(acc (hP h)).r then v=Q 11/\B f m y i else v=Q 0/\0<cV/\∃t,(∃a',fq t y i L n (vV gen (hP h) (gen (hP h)+1)) (fB op (hP h) false) (cV-1) acc A a')/\Fr PA own f m t y i):=by
 intro k S E;refine cUx func208 ?_;simp only[go_sem, ↓ag 202];apply(yc H h g).bu;rintro v w l ⟨rfl,P⟩;rw[ao hc];have c:=H.gr P;have u:=c.aL.obj;simp only[go_sem,u, ↓ag 285];rw[show hG h=gen (hP h) from hc.2.2.symm];apply(SJ c.s (hP h) hc.2.1 W).bu;rintro v x C b;by_cases j:0<(acc (hP h)).h+(acc (hP h)).r
 .simp only[ao j] at E b;obtain⟨rfl,o⟩:=b;refine zS ?_;exact E _ _ _ ⟨rfl,P.trans o⟩
 .simp only[aj j] at E b;obtain⟨rfl,q,t,⟨a',M⟩,o⟩:=b;refine zS ?_;refine E _ _ _ ⟨rfl,q,t,⟨a',⟨c.aL.ah o (by unfold PA;decide),M,H.n1,H.n2,λr d=>?_⟩⟩,(P.fr own PA).trans o (λ_ h=>h) (λ_ h=>h)⟩;have e:r≠hP h:=λe=>by subst e;rw[fu] at d;trivial
  rw[dn e] at d;exact H.cl r d
def Al{R:Rt}(q:jj)(H:fq own f m L n gen op cV acc A a)(h:Int)(g:h<=9223372036854775807)(hc:gU gen op h)(x:Int)(i:Nat)(j:eW K i=iM i)
  (z:∀(R:Rt) f m,Cl R.Y.Y.Y.Y i [.agg [Q (acc (hP h)).c,Q (acc (hP h)).h,Q (acc (hP h)).r],Q x] f m (λv y t=>v= .cI [(if q.e (acc (hP h)) x=0 then q.ap (acc (hP h)) x else yz).v,Q (q.e (acc (hP h)) x)]/\B f m y t))
  (hl:bI [.fN,.fn 455 [] [],.fn 431 [] [],.fn 456 [] [],.fn 457 [] []] q.n= .fn i [] []):
  Cl R.Y.Y.Y.Y.Y.Y 286 [.ptr L 0,Q (q.n:Nat),Q h,Q x] f m (λv y t=>v=Q (q.e (acc (hP h)) x)/\(∃a',fq own y t L n gen op cV (if q.e (acc (hP h)) x=0 then kq acc (hP h) (q.ap (acc (hP h)) x) else acc) A a')/\Fr (· =32) own f m own y t/\(q.e (acc (hP h)) x≠0->B f m y t)):=by
 intro k S E;refine cUx func286 ?_;simp only[go_sem, ↓ag 202];apply(yc H h g).bu;rintro v F l ⟨rfl,P⟩;rw[ao hc];have u:=H.gr P;have w:=u.aL.obj;simp only[go_sem,w, ↓ag 358];rw[show hG h=gen (hP h) from hc.2.2.symm];apply(a9B q u.s (hP h) hc.2.1 x i j z hl).bu;rintro v N C ⟨rfl,⟨a',M⟩,o,p⟩;refine zS ?_;refine E _ _ _ ⟨rfl,⟨a',⟨u.aL.ah o I,M,H.n1,H.n2,λr d=>?_⟩⟩,(P.fr own (· =32)).trans o Z Z,λb=>P.trans W⟩;split
 .by_cases e:r=hP h
  .subst e;rw[dQ];have:=H.cl _ d;cases q<;>exact this
  .rw [gI e];exact H.cl r d
 .exact H.cl r d
end
variable{p:Nat}{os:aI}
section
variable {own:aG} {f:av} {m L n cV A:Nat} {gen:aG} {op:bs} {acc:Nat->Acc} {a:xg}
def qi(q:jj)(acc:Nat->Acc)(p:Nat)(x:Int):Nat->Acc:=if q.e (acc p) x=0 then kq acc p (q.ap (acc p) x) else acc
def Hp{R:Rt}(H:fq own f m L n gen op cV acc A a)(h:Int)(g:h<=9223372036854775807)(hc:gU gen op h)(x:Int):
  Cl R.Y.Y.Y.Y.Y.Y.Y 210 [.ptr L 0,Q h,Q x] f m (λv y b=>v=Q (jj.Nu.e (acc (hP h)) x)/\(∃a',fq own y b L n gen op cV (qi .Nu acc (hP h) x) A a')/\Fr (· =32) own f m own y b/\(jj.Nu.e (acc (hP h)) x≠0->B f m y b)):=by
 intro k S E;refine cUx func210 ?_;simp only[go_sem, ↓ag 286];apply(Al .Nu H h g hc x 455 G (λR f m=>Ng _ (H.s.ok _ hc.2.1) x R f m) (by rfl)).bu;rintro v r l ⟨rfl,N⟩;refine zS ?_;exact E _ _ _ G
def QF{R:Rt}(H:fq own f m L n gen op cV acc A a)(h:Int)(g:h<=9223372036854775807)(hc:gU gen op h)(x:Int):
  Cl R.Y.Y.Y.Y.Y.Y.Y 333 [.ptr L 0,Q h,Q x] f m (λv y b=>v=Q (jj.uj.e (acc (hP h)) x)/\(∃a',fq own y b L n gen op cV (qi .uj acc (hP h) x) A a')/\Fr (· =32) own f m own y b/\(jj.uj.e (acc (hP h)) x≠0->B f m y b)):=by
 intro k S E;refine cUx func333 ?_;simp only[go_sem, ↓ag 286];apply(Al .uj H h g hc x 431 G (λR f m=>yy _ (H.s.ok _ hc.2.1) x R f m) (by rfl)).bu;rintro v r l ⟨rfl,N⟩;refine zS ?_;exact E _ _ _ G
def Lx{R:Rt}(H:fq own f m L n gen op cV acc A a)(h:Int)(g:h<=9223372036854775807)(hc:gU gen op h)(x:Int):
  Cl R.Y.Y.Y.Y.Y.Y.Y 212 [.ptr L 0,Q h,Q x] f m (λv y b=>v=Q (jj.IQ.e (acc (hP h)) x)/\(∃a',fq own y b L n gen op cV (qi .IQ acc (hP h) x) A a')/\Fr (· =32) own f m own y b/\(jj.IQ.e (acc (hP h)) x≠0->B f m y b)):=by
 intro k S E;refine cUx func212 ?_;simp only[go_sem, ↓ag 286];apply(Al .IQ H h g hc x 456 G (λR f m=>SK _ (H.s.ok _ hc.2.1) x R f m) (by rfl)).bu;rintro v r l ⟨rfl,N⟩;refine zS ?_;exact E _ _ _ G
def Yx{R:Rt}(H:fq own f m L n gen op cV acc A a)(h:Int)(g:h<=9223372036854775807)(hc:gU gen op h)(x:Int):
  Cl R.Y.Y.Y.Y.Y.Y.Y 316 [.ptr L 0,Q h,Q x] f m (λv y b=>v=Q (jj.LV.e (acc (hP h)) x)/\(∃a',fq own y b L n gen op cV (qi .LV acc (hP h) x) A a')/\Fr (· =32) own f m own y b/\(jj.LV.e (acc (hP h)) x≠0->B f m y b)):=by
 intro k S E;refine cUx func316 ?_;simp only[go_sem, ↓ag 286];apply(Al .LV H h g hc x 457 G (λR f m=>a5O _ (H.s.ok _ hc.2.1) x R f m) (by rfl)).bu;rintro v r l ⟨rfl,N⟩;refine zS ?_;exact E _ _ _ G
def lP(acc:Nat->Acc)(os)(i:Nat)(h:i<os.length):∀j,j<4->bI (fM acc os) (i*4+j)=Q ((if j=0 then(os[i]:Int) else if j=1 then(acc os[i]).c else if j=2 then(acc os[i]).h else(acc os[i]).r)):=by
 intro j z;have M:=BP acc os i h;have t:=nK acc (os.take i);have F:(os.take i).length=i:=Y6;have e:fM acc os=fM acc (os.take (i+1))++fM acc (os.drop (i+1)):=by unfold fM;rw[←mK,uC]
 rw[e,M,mj,ao (by simp[Acc.cs];omega),mj,aj Z,t,F];have:i*4+j-i*4=j:=Z;rw[this]
 match j,z with
 |0,_=>rfl
 |1,_=>rfl
 |2,_=>rfl
 |3,_=>rfl
def a4L:(l8 (λi=>decide (os[i]? =some p)) 0 os.length<0)↔p∉os:=by
 rcases iZ (λi=>decide (os[i]? =some p)) 0 os.length with⟨A,N⟩|⟨j,A,N,M,u,r⟩
 .rw [A];refine⟨λ_ R=>?_,Z⟩;obtain⟨i,F,e⟩:=jm R;grind
 grind
def a8e{R:Rt}(H:fq own f m L n gen op cV acc A a)(p:Nat):
  Cl R.Y.Y.Y.Y.Y 297 [.ptr L 0,Q p] f m (λv y m'=>∃i:Int,v=Q i/\(i<0↔op p=false)/\B f m y m'):=by
 intro k S E;refine cUx func297 ?_;simp only[go_sem, ↓ag 43];have x:B f m (bw f m (.row 3 1 0 true [.num 0] (.cf (bI [Q p])))) (pl m 1):=(B.refl f m).new;apply(nq (H.gr x)).bu;rintro v f1 l ⟨P,e,q,N,h3,t,_⟩;have s:∀F M,B f1 l F M->F m=(.row 3 1 0 true [.num 0] (.cf (bI [Q p]))):=λF M g=>by rw[g.ah m (by have:=P.le;trivial),P.ah m W];exact aK ..
 simp only[go_sem,bN t.bC, ↓ag 365];refine(nu t Z (λi j=>if j=0 then((e[i]?).getD 0:Int) else if j=1 then(acc ((e[i]?).getD 0)).c else if j=2 then(acc ((e[i]?).getD 0)).h else(acc ((e[i]?).getD 0)).r) (λi b j z=>by rw[lP acc e i b j z];grind) _ G _ (λi=>decide (e[i]? =some p)) ?_).bu ?_
 .intro i b F M g k S E;have hF:=s F M g;have u:m≠M:=by have q:=P.le;have N:=g.le;unfold pl at q;omega
  simp only[bT b,uB];change (Rt.Y _).call _ [.agg [Q (e[i]:Nat),Q (acc e[i]).c,Q (acc e[i]).h,Q (acc e[i]).r],.ptr m 0] (.fn F M) k=S;refine cUx func366 ?_;refine zS ?_;refine E _ _ _ ⟨?_,(B.w (m2:=M) Qe E1)⟩;rw[←od];simp[bT b];omega
 .rintro v d C ⟨rfl,o⟩;refine zS ?_;refine E _ _ _ ⟨_,rfl,?_,(x.trans P).trans o⟩;rw[a4L,N];simp
def yV{R:Rt}(H:fq own f m L n gen op cV acc A a)(p:Nat)(j:∀p,gen p<=1048575):
  Cl R.Y.Y.Y.Y.Y.Y 220 [.ptr L 0,Q p] f m (λv y g=>v=Q (if op p=true then kN 1 p (gen p) 0 else 0:Nat)/\B f m y g):=by
 intro k S E;refine cUx func220 ?_;simp only[go_sem, ↓ag 297];apply(a8e H p).bu;rintro v r l ⟨i,rfl,F,P⟩;cases b:op p with
 |false=>have c1:=F.2 b;rw[b] at E;refine zS ?_;exact E _ _ _ ⟨rfl,P⟩
 |true=>have c1:¬(i<0):=λh=>W;rw[b] at E;have c:=H.gr P;have hp:p<64:=bW (H.s.s.lt b) H.s.s.fr;have e:=c.aL.obj;have N:=c.s.aA.obj;have hG:=xI c.s.s p hp;simp only[go_sem,c1,e,N,hG, ↓ag 205];apply(oC 1 p (gen p) 0 G Z W I _ r l).bu;rintro v d C ⟨rfl,o⟩;refine zS ?_;exact E _ _ _ ⟨rfl,P.trans o⟩
end
variable{m:Nat}{f:av}
def a3J(own)(C:∀x,m<=x->own x=0)(n:Nat)(d:1<=n)(N:n<=64)(R:Rt):
  Cl R.Y.Y.Y 61 [Q n] f m (λv y c=>∃L A t a,v= .ptr L 0/\fq t y c L n (λ_=>0) (λ_=>false) 0 (λ_=>yz) A a/\Fr (λ_=>False) own f m t y c):=by
 intro k S E;have c1:¬((n:Int)<1):=Z;have c2:¬((1048576:Int)<n):=Z;refine cUx func61 ?_;simp only[go_sem,c1,c2, ↓ag 114];apply(a5M own C _).bu;rintro v r l ⟨A,b,a,rfl,M,e⟩;refine zS ?_;refine fG ?_;intro F j;have p:Fr (λ_=>False) b r l (cm b l [9]) F (pl l 1):=by refine Fr.cm (P:=λ_=>False) ?_ G;rw[j];exact B.fr (B.w (m2:=l) Qc E1) _ _
 exact E _ _ _ ⟨l,A,_,a,rfl,⟨ez J3 rfl G,M.ah p G,d,N,W⟩,e.trans p (λ_ h=>h) (λ_ h=>h)⟩
variable{i:Nat}
structure Pc where
 g:Int
 sp:List (Int×Int)
 rg:Int->Int
structure IB where
 M:Nat
 l:List (Int×V×Nat)
 ck:Nat
def a5U(own:aG)(f:av)(m aF1 i:Nat)(s:Pc):Prop:=∃z a p d,At own (400+3*i) f m aF1 (.row 220 3 0 true [.au,.num 0,.fR] (.cf (bI [z,Q s.g,.map a])))/\bS own (401+3*i) f m 222 2 z s.sp.length (ub s.sp)/\At own (402+3*i) f m a (.map (enc p) d)/\Wf p d/\(∀x v,cC p x=some v->∃y:Int,v=Q y)/\∀x,(cC p x).getD (Q 0)=Q (s.rg x)/\s.rg x<=9223372036854775807
@[grind cases] structure gY(own:aG)(f:av)(m X aEY:Nat)(S:Nat->Option Pc)(a:IB):Prop where
 aX:At own 60 f m X (.row 143 1 0 true [.fR] (.cf (bI [.map a.M])))
 am:At own 60 f m a.M (.map (enc a.l) a.ck)
 wf:Wf a.l a.ck
 ky:∀p∈a.l,0<=p.1/\p.1<64
 no:∀i:Nat,S i=none->cC a.l i=none
 pc:∀(i:Nat) s,S i=some s->s.sp.length<=aEY/\∃aF1,cC a.l i=some (.ptr aF1 0)/\a5U own f m aF1 i s
 k1:aEY<=4000
@[grind] def PV(c:Nat):Prop:=c=60\/400<=c/\c<600
section
variable {own:aG} {f:av} {m X aEY:Nat} {S:Nat->Option Pc} {a:IB}
def a5U.ah{P:dF}{t:aG}{L aF1:Nat}{s:Pc}(h:a5U own f m aF1 i s)(q:Fr P own f m t y L)(h0:¬P (400+3*i))(A:¬P (401+3*i))(N:¬P (402+3*i)):a5U t y L aF1 i s:=by obtain⟨z,a,p,d,b,c,n,M⟩:=h;exact⟨z,a,p,d,b.ah q h0,c.ah q A,n.ah q N,M⟩
def gY.lt(h:gY own f m X aEY S a){s:Pc}(M:S i=some s):i<64:=by
 obtain⟨_,j,q,_⟩:=h.pc i s M;have:(i:Int)∈a.l.map (·.1):=On λg=>by rw[lO.2 g] at q;trivial
 obtain⟨p,b,e⟩:=fA.1 this;have:=h.ky p b;omega
def gY.ah{P:dF}{t:aG}{L:Nat}(h:gY own f m X aEY S a)(q:Fr P own f m t y L)(g:∀c,PV c->¬P c):gY t y L X aEY S a:=
 ⟨h.aX.ah q (g _ (.inl rfl)),h.am.ah q (g _ (.inl rfl)),h.wf,h.ky,h.no,λi s M=>by have F:=h.lt M;obtain⟨A,j,N,b⟩:=h.pc i s M;exact⟨A,j,N,b.ah q (g _ W) (g _ W) (g _ W)⟩,h.k1⟩
@[grind →] theorem gY.gr{L:Nat}(h:gY own f m X aEY S a)(q:B f m y L):gY own y L X aEY S a:=h.ah (q.fr own (λ_=>False)) (λ_ _=>id)
def Pj(H:gY own f m X aEY S a)(R:Rt)(L:Nat)(k):R.Y.call 45 [.ptr X 0] (.fn f L) k=k (.bool true) (.fn f L):=by have w:=H.aX.obj;refine cUx func45 ?_;exact zC
def uW(x:Int)(R:Rt)(f)(m:Nat)(k):R.Y.call 227 [Q x] (.fn f m) k=k (.bool (decide (0<=x/\x<=1048575))) (.fn f m):=by
 by_cases A:0<=x
 .by_cases N:x<=1048575
  .rw [dI G];refine cUx func227 ?_;exact zC
  .rw [dB Z];refine cUx func227 ?_;exact zC
 .rw [dB Z];refine cUx func227 ?_;exact zC
def TK{R:Rt}{aF1:Nat}{s:Pc}(h:a5U own f m aF1 i s)(j x l:Int):
  Cl R.Y 77 [.ptr aF1 0,Q j,.agg [Q x,Q l]] f m (λv y L=>v= .agg [Q j,Q s.g,Q (s.rg x),Q x,Q l]/\B f m y L):=by
 intro k r E;obtain⟨z,a,p,d,t,H,n,M,b,F⟩:=h;have q:=t.obj;have P:=n.obj;have e:=t.lt;have o:=n.lt;have c:aF1≠m:=Z;have u:aF1≠pl m 1:=W;have N:a≠m:=Z;have A:a≠pl m 1:=W;have S:=(F x).1;rw[show Q 0=V.num 0 from G] at S;refine cUx func77 ?_;refine zS ?_;exact E _ _ _ ⟨rfl,(B.w (m2:=m) Qd E1)⟩
end
def laC(i:Nat)(s:Pc)(a:List (Int×Int)):ay:=a.flatMap λp=>[Q i,Q s.g,Q (s.rg p.1),Q p.1,Q p.2]
def a3Q(i:Nat)(s:Pc)(a:List (Int×Int))(j:Nat)(h:j<a.length):laC i s (a.take (j+1))=laC i s (a.take j)++ [Q i,Q s.g,Q (s.rg a[j].1),Q a[j].1,Q a[j].2]:=by unfold laC;rw[jr h,mK];simp
def laN(S:Nat->Option Pc)(i:Nat):Nat:=match S i with|none=>0|some s=>s.sp.length
def laL(S:Nat->Option Pc)(i:Nat):ay:=match S i with|none=>[]|some s=>laC i s s.sp
section
variable {own:aG} {f:av} {m X aEY:Nat} {S:Nat->Option Pc} {a:IB}
def a2F{R:Rt}(H:gY own f m X aEY S a)(i:Nat):
  Cl R.Y.Y 48 [.ptr X 0,Q i] f m (λv y L=>i7 y L 153 5 v (laN S i) (laL S i)/\B f m y L):=by
 intro k T hk;have hi:=Pj H;have hX:=H.aX.obj;have hM:=H.am.obj;cases hs:S i with
 |none=>
  have hn:=H.no i hs;have e1:laN S i=0:=by unfold laN;rw[hs]
  have e2:laL S i= []:=by unfold laL;rw[hs]
  refine cUx func48 ?_;refine zS ?_;exact hk _ _ _ ⟨.inl ⟨rfl,e1,e2⟩,B.refl _ _⟩
 |some s=>
  have e1:laN S i=s.sp.length:=by unfold laN;rw[hs]
  have e2:laL S i=laC i s s.sp:=by unfold laL;rw[hs]
  rw[e1,e2] at hk;obtain⟨hK,aF1,hB,hP⟩:=H.pc i s hs;have hP0:=hP;obtain⟨lv,rm,rl,rk,a1,a2,a3,a4,a5,a6⟩:=hP0;have hBo:=a1.obj;have h1:=H.k1;have tI:=λq=>a2.jD Z q;refine cUx func48 ?_;simp only[go_sem,hi,hX,hM,hB,hBo,tI,a2.bt];refine cU (x:=.exit 0) (n:=s.sp.length) (aF0:=λr e y L=>∃(j:Nat) (t:aG) (N:V),j+r=s.sp.length/\(eg 0).get e= .ptr X 0/\(eg 1).get e=Q i/\(eg 29).get e=lv/\(eg 30).get e=Q s.sp.length/\(eg 31).get e=Q j/\(eg 5).get e=N/\Fr (· =7) (λ_=>0) f m t y L/\bS t 7 y L 153 5 N j (laC i s (s.sp.take j)))
   (E:=λe y L=>∃(t:aG) (N:V),(eg 5).get e=N/\Fr (· =7) (λ_=>0) f m t y L/\bS t 7 y L 153 5 N s.sp.length (laC i s s.sp)) ?_ J2 ?_ ?_
  .exact ⟨0,λ_=>0,.au,Z,E6,E6,E6,E6,E6,E6,Fr.refl _ _ _ _,bS.nil⟩
  .rintro r e f1 l ⟨j,bX,v1,hjr,e0,e1,e29,e30,e31,e5,g1,hs1⟩ rr kx C hE;unfold iB;have P:B f m f1 l:=g1.xD Z;by_cases A:j<s.sp.length
   .have c1:(j:Int)<s.sp.length:=by omega
    obtain⟨b,o,cp,mm,fz,w,z,g,rfl,hb,hf,nz,h0,h1⟩:=yF (a2.uf.gr P) A;have QZ:=(H.gr P).aX.obj;have wF:=(H.gr P).am.obj;have lX:=(H.gr P).aX.lt;have lM:=(H.gr P).am.lt;have d:X≠l:=Z;have n2:a.M≠l:=Z;have ew:IntKind.i64.wrap ((j:Int)+1)=((j+1:Nat):Int):=Qf;simp only[go_sem,e0,e1,e29,e30,e31,e5,c1,A,hf,nz,h0,h1,QZ,wF,d,n2,hB,hs1.live, ↓ag 77];refine aP ?_;intro F hF;have q2:B f1 l F (pl l 1):=Wh;have q12:=P.trans q2;have hPF:=hP.ah (q12.fr own (λ_=>False)) id id id;apply(TK hPF i s.sp[j].1 s.sp[j].2).bu;rintro u f3 m3 ⟨rfl,p⟩;have c:=(p.ah l W).trans (show F l=_ by rw[hF]);have YP:=(H.gr (q12.trans p)).aX.obj;have LP:=(H.gr (q12.trans p)).am.obj;have l3:=p.le;have n3:X≠m3:=W;have n4:a.M≠m3:=W;have n5:l≠m3:=W;simp only[go_sem,c,YP,LP,n3,n4,n5,hB];refine gE ?_;intro F4 Dq;have q4:B f3 m3 F4 (pl m3 1):=by rw[Dq];exact(B.w (m2:=m3) Qc E1)
    have q14:=(q2.trans p).trans q4;refine dv (hs1.ah (q14.fr bX (λ_=>False)) id) (n':=1) rfl ?_ Z Z ?_
    .intro u hu;simp at hu;rcases hu with rfl|rfl|rfl|rfl|rfl<;>exact iW _
    intro v5 fQ f5 m5 Ul q5;simp only[go_sem,e31,Ul.live,ew];refine C (r-1) _ _ _ Z ⟨j+1,fQ,v5,Z,E6,E6,E6,E6,E6,E6,(g1.trans (q14.fr bX (· =7)) (λ_ h=>h) (λ_ h=>h)).trans q5 (λ_ h=>h) Z,?_⟩;rw[a3Q _ _ _ _ A];trivial
   .have c1:¬(j:Int)<s.sp.length:=by omega
    obtain rfl:j=s.sp.length:=Z;refine zS ?_;rw[mJ] at hs1;exact hE _ _ _ ⟨bX,v1,e5,g1,hs1⟩
  .rintro e f1 l ⟨bX,v1,e5,g1,hs1⟩;simp only[go_sem,e5,hs1.live];exact hk _ _ _ ⟨hs1.uf,g1.xD Z⟩
def VC(S:Nat->Option Pc)(os:aI):Nat:=(os.map (laN S)).sum
def alC(S:Nat->Option Pc)(os:aI):ay:=os.flatMap (laL S)
def a9z(S:Nat->Option Pc)(os:aI)(i:Nat)(h:i<os.length):VC S (os.take (i+1))=VC S (os.take i)+laN S os[i]/\alC S (os.take (i+1))=alC S (os.take i)++laL S os[i]:=by unfold VC alC;rw[jr h,mK,iH,List.sum_append];simp
def a7t{R:Rt}(H:gY own f m X aEY S a)(hK:∀os:aI,os.Nodup->(∀x∈os,S x≠none)->VC S os<=4000):
  Cl R.Y.Y.Y 21 [.ptr X 0] f m (λv y L=>(∃os:aI,os.Pairwise (· < ·)/\(∀x,x∈os↔S x≠none)/\i7 y L 153 5 v (VC S os) (alC S os)/\Nw m v)/\B f m y L):=by
 intro k T hk;have F:=Pj H;have hX:=H.aX.obj;have hlen:a.l.length<=64:=by
  have h1:=dg (n:=64) (l:=a.l.map λp=>p.1.toNat) (by have:=H.wf.keys;rw[pq,uA] at this ⊢;exact this.imp_of_mem W) (λx hx=>W)
  simpa using h1
 refine cUx func21 ?_;refine zS ?_;refine cUx func47 ?_;refine zS ?_;have xl:a.M≠m:=R0;refine xy (i:=a.M) (l:=a.l) (c:=a.ck) T9 G (by refine zS ?_;grind) H.wf (λp hp=>W) Z rfl I ?_;intro v f1 m1 hG hI;have P:B f m f1 m1:=(B.refl f m).new.trans hG;generalize hos:oc a.l=os at hI;have acR:∀x,x∈os↔S x≠none:=λx=>by
  rw[←hos,xX (λp hp=>W)];cases hs:S x with
  |none=>grind
  |some s=>grind
 have aan:os.Pairwise (· < ·):=by rw[←hos];exact qL H.wf (λp hp=>W)
 have Cq:os.Nodup:=pq.2 (aan.imp Z);have Dn:os.length<=64:=dg Cq (λx hx=>by
  cases hs:S x with
  |none=>grind
  |some s=>exact H.lt hs)
 have hN:∀i,VC S (os.take i)<=4000:=λi=>W;have tI:=λq=>hI.jD W q;rw[dT] at tI;refine zS ?_;refine cU (x:=.exit 0) (n:=os.length) (aF0:=λr e y L=>∃(i:Nat) (t:aG) (N:V),i+r=os.length/\(eg 0).get e= .ptr X 0/\(eg 14).get e=v/\(eg 15).get e=Q os.length/\(eg 16).get e=Q i/\(eg 3).get e=N/\Fr (· =7) (λ_=>0) f1 m1 t y L/\bS t 7 y L 153 5 N (VC S (os.take i)) (alC S (os.take i)))
  (E:=λe y L=>∃(t:aG) (N:V),(eg 3).get e=N/\Fr (· =7) (λ_=>0) f1 m1 t y L/\bS t 7 y L 153 5 N (VC S os) (alC S os)) ?_ J2 ?_ ?_
 .exact ⟨0,λ_=>0,.au,Z,G,G,G,G,G,W,bS.nil⟩
 .rintro r e d C ⟨i,dm,v2,Uu,e0,e14,e15,e16,A,g2,IK⟩ rr j lR hE;unfold iB;have q2:B f1 m1 d C:=g2.xD Z;by_cases mO:i<os.length
  .have c1:(i:Int)<os.length:=by omega
   obtain⟨b,o,cp,mm,fz,w,z,g,ee,Uz,hf,nz,Uw⟩:=(hI.gr q2).at (i:=i) W;rw[dT] at ee;subst ee;have Uw:g (o+i)=Q (os[i]:Nat):=Zq;have ew:IntKind.i64.wrap ((i:Int)+1)=((i+1:Nat):Int):=Qf;simp only[go_sem,e0,e14,e15,e16,A,c1,mO,hf,nz,Uw,IK.live, ↓ag 48];apply(a2F (H.gr (P.trans q2)) os[i]).bu;rintro u f3 m3 ⟨hu,q3⟩;simp only[go_sem];rw[hu.src];obtain⟨h3,h4⟩:=a9z S os i mO;have h5:=hN (i+1);rw[h3] at h5;refine dv (IK.ah (q3.fr dm (λ_=>False)) id) hu.cells ?_ Z Z ?_
   .intro x hx;rcases hu with⟨_,_,e⟩|⟨_,_,_,_,_,_,_,_,_,_,_,_,_,_,h7⟩
    .grind
    grind
   intro v5 fQ f5 m5 Ul q5;simp only[go_sem,e16,Ul.live,ew];refine lR (r-1) _ _ _ Z ⟨i+1,fQ,v5,Z,E6,E6,E6,E6,E6,(g2.trans (q3.fr dm (· =7)) (λ_ h=>h) (λ_ h=>h)).trans q5 (λ_ h=>h) Z,?_⟩;grind
  .have c1:¬(i:Int)<os.length:=by omega
   obtain rfl:i=os.length:=Z;refine zS ?_;rw[mJ] at IK;exact hE _ _ _ ⟨dm,v2,A,g2,IK⟩
 .rintro e d C ⟨dm,v2,A,g2,IK⟩;simp only[go_sem,A,IK.live];exact hk _ _ _ ⟨⟨os,aan,acR,IK.uf,IK.nw (λx hx=>by rw[g2.same x W];decide)⟩,P.trans (g2.xD Z)⟩
end
structure tX where
 T:Nat
 M:Nat
 l:List (Int×V×Nat)
 ck:Nat
 fa:Nq
 pv:dA
 cu:dc
structure fX(own:aG)(f:av)(m aEU:Nat)(gen:aG)(op:bs)(cV:Nat)(P:Int->Int)(cl:aG)(pg:Nat->dC)(a:tX):Prop where
 aZ:At own 54 f m aEU (.row 189 2 0 true [.bg,.fR] (.cf (bI [.ptr a.T 0,.map a.M])))
 am:At own 54 f m a.M (.map (enc a.l) a.ck)
 wf:Wf a.l a.ck
 fo:fI own f m a.T 4096 gen op cV P a.fa
 mo:∀k:Nat,op k=true->cC a.l k=some (.agg [Q (cl k),a.pv k,Q (a.cu k)])
 pv:∀k,op k=true->bS own 55 f m 3 1 (a.pv k) (pg k).length ((pg k).map λ(x:Int)=>Q x)
 c64:∀k,op k=true->cl k<64
 pl:∀k,op k=true->(pg k).length<=64
 up:∀k,Nd (4096:Nat) P k->P k<4096->cl (P k).toNat=cl k.toNat
@[grind] def PZ(c:Nat):Prop:=PF c\/c=54
def pM(gen:aG)(op:bs)(r:Int):Prop:=hOk r/\hK r=2/\hO r=0/\op (hP r)=true/\gen (hP r)=hG r
instance (gen:aG) (op:bs) (r:Int):Decidable (pM gen op r):=Classical.propDecidable _
section
variable {own:aG} {f:av} {m aEU cV:Nat} {gen:aG} {op:bs} {P:Int->Int} {cl:aG} {pg:Nat->dC} {a:tX}
def fX.ah{aEV:dF}{t:aG}{L:Nat}(h:fX own f m aEU gen op cV P cl pg a)(q:Fr aEV own f m t y L)(g:∀c,PZ c->¬aEV c)(r:¬aEV 55):fX t y L aEU gen op cV P cl pg a:=
 ⟨h.aZ.ah q (g _ (.inr rfl)),h.am.ah q (g _ (.inr rfl)),h.wf,h.fo.ah q (λc F=>g c (.inl F)),h.mo,λk E=>(h.pv k E).ah q r,h.c64,h.pl,h.up⟩
@[grind →] theorem fX.gr{L:Nat}(h:fX own f m aEU gen op cV P cl pg a)(q:B f m y L):fX own y L aEU gen op cV P cl pg a:=h.ah (q.fr own (λ_=>False)) (λ_ _=>id) id
def OB(H:fX own f m aEU gen op cV P cl pg a)(R:Rt)(L:Nat)(k):R.Y.call 203 [.ptr aEU 0] (.fn f L) k=k (.bool true) (.fn f L):=by have S:=H.aZ.obj;refine cUx func203 ?_;exact zC
def pI{R:Rt}(H:fX own f m aEU gen op cV P cl pg a)(r:Int)(d:r<=9223372036854775807):
  Cl R.Y.Y.Y 221 [.ptr aEU 0,Q r] f m (λv y L=>(if pM gen op r then v= .cI [Q (hP r),Q 0] else ∃e:Int,e≠0/\v= .cI [Q 0,Q e])/\B f m y L):=by
 intro k c E;have F:=OB H;refine cUx func221 ?_;simp only[go_sem,F, ↓ag 235];apply(vh r d _ f m).bu;rintro v i l ⟨rfl,g⟩;have no:∀e:Int,e≠0->¬pM gen op r->k (.cI [Q 0,Q e]) (.fn i l)=c:=W;by_cases A:hOk r
 .rw [ao A];by_cases N:hK r=2
  .have c2:((hK r:Nat):Int)=2:=by omega
   by_cases M:hO r=0
   .have c3:((hO r:Nat):Int)=0:=by omega
    have b:=H.gr g;have S:=b.aZ.obj;have t:=ZA b.fo (hP r) (hG r);by_cases u:op (hP r)=true/\gen (hP r)=hG r
    .rw [dI W] at t;refine zS ?_;exact E _ _ _ ⟨by rw[ao G],g⟩
    .rw [dB (λh=>W)] at t;refine zS ?_;exact no 4 I (λh=>u h.2.2.2)
   .have c3:¬((hO r:Nat):Int)=0:=by omega
    refine zS ?_;exact no 14 I (λh=>M h.2.2.1)
  .have c2:¬((hK r:Nat):Int)=2:=by omega
   refine zS ?_;exact no 14 I (λh=>N h.2.1)
 .rw [aj A];refine zS ?_;exact no 14 I (λh=>A h.1)
def fX.lt(H:fX own f m aEU gen op cV P cl pg a)(h:op p=true):p<4096:=bW (H.fo.s.lt h) H.fo.s.fr
def OC{R:Rt}(H:fX own f m aEU gen op cV P cl pg a)(r:Int)(d:r<=9223372036854775807):
  Cl R.Y.Y.Y.Y 219 [.ptr aEU 0,Q r] f m (λv y L=>(if pM gen op r then v= .cI [Q (cl (hP r)),Q 0] else ∃e:Int,e≠0/\v= .cI [Q 0,Q e])/\B f m y L):=by
 intro k c E;refine cUx func219 ?_;simp only[go_sem, ↓ag 221];apply(pI H r d).bu;rintro v j l ⟨g,i⟩;by_cases h:pM gen op r
 .rw [ao h] at g;subst g;have A:=H.gr i;have S:=A.aZ.obj;have o:=A.am.obj;have n:=H.mo _ h.2.2.2.1;refine zS ?_;grind
 .rw [aj h] at g;obtain⟨e,b,rfl⟩:=g;refine zS ?_;grind
end
def dE{α:Type}(g:Nat->α)(p:Nat)(x:α):Nat->α:=λk=>if k=p then x else g k
def cj{α:Type}(g:Nat->α)(p:Nat)(x:α):dE g p x p=x:=ao rfl
def dd{α:Type}{g:Nat->α}{k:Nat}{x:α}(h:k≠p):dE g p x k=g k:=aj h
section
variable {own:aG} {f:av} {m aEU cV:Nat} {gen:aG} {op:bs} {P:Int->Int} {cl:aG} {pg:Nat->dC} {a:tX}
def SP{R:Rt}(H:fX own f m aEU gen op cV P cl pg a)(p:Nat)(L:op p=true)(N)(xs:dC)(F:bS own 55 f m 3 1 N xs.length (xs.map λ(x:Int)=>Q x))(hl:xs.length<=64)(c:Int):
  Cl R.Y 224 [.ptr aEU 0,Q p,.agg [N,Q c]] f m (λv y m'=>v= .cI []/\(∃a',fX own y m' aEU gen op cV P cl (dE pg p xs) a')/\Fr (· =54) own f m own y m'):=by
 intro k aEY E;have S:=H.aZ.obj;have hM:=H.am.obj;have n:=H.mo p L;have hp:=H.pv p L;have u:aEU≠a.M:=W;have g:=H.aZ.lt;have o:=H.am.lt;have s:aEU≠m:=Z;have j:aEU≠pl m 1:=W;have q:a.M≠m:=Z;have m1:a.M≠pl m 1:=W;have i:∀z,laid 1 [N,Q c] (laid 0 [Q (cl p),a.pv p,Q (a.cu p)] z) 0=Q (cl p):=λz=>G;have d:∀z,laid 1 [N,Q c] z 1=N:=λz=>G;have b:∀z,laid 1 [N,Q c] z 2=Q c:=λz=>G;refine cUx func224 ?_;simp only[go_sem,i,d,b,S,hM,n,s,j,q,m1,F.bt];refine fG ?_;intro A r;have t:Fr (· =54) own f m own A (pl m 2):=by rw[r];exact(Fr.w (m2:=m) (by repeat (first|exact Fr.refl _ _ _ _|refine Fr.bw ?_ (by first|exact λh=>absurd h (by first|omega|(unfold pl at *;omega))|exact λ_=>H.am.own|exact λ_=>.inl H.am.own|exact λ_=>.inr H.am.own))) E1)
 refine E _ _ _ ⟨rfl,⟨{a with l:=eJ a.l p (.agg [Q (cl p),N,Q c]) a.ck,ck:=im a.l p a.ck,pv:=dE a.pv p N,cu:=dE a.cu p c},⟨⟨?_,H.aZ.own,bW g t.le⟩,⟨?_,H.am.own,bW o t.le⟩,H.wf.set _ _,H.fo.ah t W,λk E=>?_,λk E=>?_,H.c64,λk E=>?_,H.up⟩⟩,t⟩
 .rw [r];simp only[go_sem,s,j,u];trivial
 .rw [r];exact zC
 .show cC (eJ a.l p _ a.ck) k=some (.agg [Q (cl k),dE a.pv p N k,Q (dE a.cu p c k)]);rw[dR];by_cases e:p=k
  .subst e;rw[ao rfl,cj,cj]
  .rw [aj Z,dd Z,dd Z];exact H.mo k E
 .show bS own 55 A (pl m 2) _ 1 (dE a.pv p N k) _ _;by_cases e:k=p
  .subst e;rw[cj,cj];exact F.ah t I
  .rw [dd e,dd e];exact(H.pv k E).ah t I
 .by_cases e:k=p
  .subst e;rw[cj];trivial
  .rw [dd e];exact H.pl k E
def SQ{R:Rt}(H:fX own f m aEU gen op cV P cl pg a)(r:Int)(hr:r<=9223372036854775807)(g:pM gen op r)(sz al ch:Int)(ha:al<=9223372036854775807):
  Cl R.Y.Y.Y.Y.Y.Y.Y 141 [.ptr aEU 0,Q r,Q sz,Q al,Q ch] f m (λv y m'=>∃i at_ e:Int,v= .cI [Q i,Q at_,Q e]/\(e=0->i∈pg (hP r))/\∃t,(∃a',fX t y m' aEU gen op cV P cl pg a')/\Fr (· =54) own f m t y m'):=by
 intro k c E;refine cUx func141 ?_;simp only[go_sem, ↓ag 221];apply(pI H r hr).bu;rintro v f1 m1 ⟨hv,q1⟩;rw[ao g] at hv;subst hv;have A:=H.gr q1;have S:=A.aZ.obj;have hM:=A.am.obj;have L:=g.2.2.2.1;have hmo:=H.mo _ L;have hp:=A.pv _ L;have EW:=H.pl _ L;simp only[go_sem,S,hM,hmo, ↓ag 223];apply(a2L hp.Dl Z sz al ch ha).bu;rintro u d C ⟨⟨w,i,at_,e,rfl,l,b⟩,o⟩;by_cases s:e=0
 .obtain ⟨N,c',rfl,hi,hs⟩:=b s;subst s;obtain⟨M,n,z⟩:=hs.to o own 55;have e3:pl C 1=pl C 1:=rfl;simp only[go_sem,z.bt, ↓ag 224];refine aP ?_;intro F j;have p:B d C F (pl C 1):=Vz;have x:=p.fr M (λ_=>False);refine(SP ((A.ah n (λ_ _=>id) id).ah x (λ_ _=>id) id) (hP r) L N (pg (hP r)) (z.ah x id) EW c').bu ?_;rintro v f4 m4 ⟨rfl,⟨a',h4⟩,q4⟩;refine zS ?_;refine E _ _ _ ⟨i,at_,0,rfl,λ_=>hi,M,⟨a',?_⟩,(((q1.fr own (· =54)).trans n (λ_ h=>h) (λ_ h=>h.elim)).trans x (λ_ h=>h) (λ_ h=>h.elim)).trans q4 (λ_ h=>h) Z⟩;have e4:dE pg (hP r) (pg (hP r))=pg:=by funext k;unfold dE;split;rename_i h;rw[h];rfl
  grind
 .have hw2:w.length<=2:=by omega
  refine zS ?_;refine fG ?_;intro F j;have p:B d C F (pl C 1):=Vz;have q:=(q1.trans o).trans p;exact E _ _ _ ⟨0,0,e,rfl,Z,own,⟨a,H.gr q⟩,q.fr _ _⟩
def a6N{R:Rt}(H:fX own f m aEU gen op cV P cl pg a)(r:Int)(hr:r<=9223372036854775807)(g:pM gen op r)(x:Int)(hl:(pg (hP r)).length<64):
  Cl R.Y.Y.Y.Y 143 [.ptr aEU 0,Q r,Q x] f m (λv y m'=>∃e:Int,v=Q e/\∃t,(∃a',fX t y m' aEU gen op cV P cl (if e=0 then dE pg (hP r) (pg (hP r)++ [x]) else pg) a')/\Fr (· =54) own f m t y m'):=by
 intro k c E;refine cUx func143 ?_;simp only[go_sem, ↓ag 221];apply(pI H r hr).bu;rintro v f1 m1 ⟨hv,q1⟩;rw[ao g] at hv;subst hv;have A:=H.gr q1;have S:=A.aZ.obj;have hM:=A.am.obj;have L:=g.2.2.2.1;have hmo:=H.mo _ L;have hp:=A.pv _ L;have EW:=Z;simp only[go_sem,S,hM,hmo, ↓ag 226];apply(a2M hp.Dl Z x).bu;rintro u d C ⟨⟨w,e,rfl,l,b⟩,o⟩;by_cases s:e=0
 .obtain ⟨N,rfl,hs⟩:=b s;subst s;obtain⟨M,n,z⟩:=hs.to o own 55;rw[show (pg (hP r)).length+1=(pg (hP r)++ [x]).length by simp] at z;simp only[go_sem,z.bt, ↓ag 224];refine aP ?_;intro F j;have p:B d C F (pl C 1):=Vz;have r3:=p.fr M (λ_=>False);refine(SP ((A.ah n (λ_ _=>id) id).ah r3 (λ_ _=>id) id) (hP r) L N (pg (hP r)++ [x]) (z.ah r3 id) W 0).bu ?_;rintro v f4 m4 ⟨rfl,⟨a',h4⟩,i⟩;refine zS ?_;exact E _ _ _ ⟨0,rfl,M,W,(((q1.fr own (· =54)).trans n (λ_ h=>h) (λ_ h=>h.elim)).trans r3 (λ_ h=>h) (λ_ h=>h.elim)).trans i (λ_ h=>h) Z⟩
 .have hw2:w.length<=2:=by omega
  refine zS ?_;refine fG ?_;intro F j;have p:B d C F (pl C 1):=Vz;have q:=(q1.trans o).trans p;exact E _ _ _ ⟨e,rfl,own,⟨a,by rw[aj s];exact H.gr q⟩,q.fr _ _⟩
end
end
end Go.Ev.Sy
