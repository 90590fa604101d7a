import Derived.Test.YthpffinbkpnniaaGreatDoorM17
set_option linter.all false
set_option maxRecDepth 100000
namespace Go.Ev.Sy
open Go Go.Ev Go.Proofs
open Tryz
noncomputable section
variable{M:Nat}{F:av}
section
variable {own:aG} {f:av} {m X aEY:Nat} {S:Nat->Option Pc} {a:IB}
def TD{X:Nat}(j:F X=(.row 143 1 0 true [.fR] (.cf (bI [.map M]))))(R:Rt)(L:Nat)(k):R.Y.call 45 [.ptr X 0] (.fn F L) k=k (.bool true) (.fn F L):=by refine cUx func45 ?_;exact zC
def gY.ani(H:gY own f m X aEY S a){x:Int}{v:V}(h:cC a.l x=some v):∃i:Nat,x=i/\∃aF1,v= .ptr aF1 0:=by
 have E:x∈a.l.map (·.1):=On λg=>by rw[lO.2 g] at h;cases h
 obtain⟨p,b,e⟩:=fA.1 E;have c:=H.ky p b;obtain⟨i,rfl⟩:∃i:Nat,x=i:=⟨x.toNat,Z⟩;refine⟨i,rfl,?_⟩;cases M:S i with
 |none=>rw[H.no i M] at h;cases h
 |some s=>obtain⟨_,aF1,q,_⟩:=H.pc i s M;grind
def TG{R:Rt}(H:gY own f m X aEY S a)(hK:aEY<4000)(i:Nat)(hi:i<64)(g r x l:Int)(hr:r<=9223372036854775807):
  Cl R.Y.Y.Y.Y.Y 145 [.ptr X 0,.agg [Q i,Q g,Q r,Q x,Q l]] f m (λv f' L=>∃n e:Int,v= .cI [Q n,Q e]/\n<=9223372036854775807/\∃bo S',(∃a',gY bo f' L X (aEY+1) S' a')/\(e≠0->n=0/\S'=S)/\(∀j,j≠i->S' j=S j)/\Fr PV own f m bo f' L):=by
 intro k T E;have hX:=H.aX.obj;have hM:=H.am.obj;have lX:=H.aX.lt;have lM:=H.am.lt;have n1:X≠m:=Z;have n2:a.M≠m:=Z;have hii:=λo R M k=>TD (M:=a.M) (F:=bw f m o) (by rw[aE n1];exact hX) R M k;have up1:∀{bo f' L},gY bo f' L X aEY S a->gY bo f' L X (aEY+1) S a:=λh=>⟨h.aX,h.am,h.wf,h.ky,h.no,λi s hs=>by obtain⟨h1,N⟩:=h.pc i s hs;exact⟨Z,N⟩,Z⟩;have no:∀(e:Int) f' L,B f m f' L->k (.cI [Q 0,Q e]) (.fn f' L)=T:=λe f' L q=>E _ _ _ ⟨0,e,rfl,Z,own,S,⟨a,up1 (H.gr q)⟩,λ_=>⟨rfl,rfl⟩,λ_ _=>rfl,q.fr _ _⟩;have b1:=uW i;have b2:=uW g;have b3:=uW x;rw[dI (show (0:Int)<=(i:Nat)/\((i:Nat):Int)<=1048575 by omega)] at b1;by_cases cg:0<=g/\g<=1048575
 case neg=>rw[dB cg] at b2;refine cUx func145 ?_;refine zS ?_;exact no 2 _ _ (B.w (m2:=m) Qe E1)
 rw[dI cg] at b2;by_cases cx:0<=x/\x<=1048575
 case neg=>rw[dB cx] at b3;refine cUx func145 ?_;refine zS ?_;exact no 2 _ _ (B.w (m2:=m) Qe E1)
 rw[dI cx] at b3;by_cases c1:l<1
 case pos=>refine cUx func145 ?_;refine zS ?_;exact no 2 _ _ (B.w (m2:=m) Qe E1)
 by_cases c2:1048576<l
 case pos=>refine cUx func145 ?_;refine zS ?_;exact no 2 _ _ (B.w (m2:=m) Qe E1)
 by_cases c3:r<0
 case pos=>refine cUx func145 ?_;refine zS ?_;exact no 2 _ _ (B.w (m2:=m) Qe E1)
 have eXM:X≠a.M:=H.aX.kv H.am qM;have P60:¬(60=400+3*i):=Z;refine(show (∃s,S i=some s)\/S i=none by cases S i with|none=>exact .inr rfl|some s=>exact .inl ⟨s,rfl⟩).elim (λhs=>?A) (λhs=>?aF1)
 case' A=>
  obtain⟨s,hs⟩:=hs;obtain⟨hsk,aF1,hB,hP⟩:=H.pc i s hs;obtain⟨lv,rm,rl,d,a1,a2,a3,a4,a5,a6⟩:=hP;have hBo:=a1.obj;have lB:=a1.lt;have n3:aF1≠m:=Z;have hmB:m≠aF1:=n3.symm;have hmr:m≠rm:=by have:=a3.lt;omega
  refine(kf (s.g=g)).elim (λhg=>?A1) (λhg=>?A2)
  case' A2=>refine cUx func145 ?_;refine zS ?_;exact no 4 _ _ (B.w (m2:=m) Qe E1)
  case' A1=>
   refine cUx func145 ?_;simp only[go_sem,hii,b1,b2,b3,c1,c2,c3,hX,hM,n1,n2,n3,hB,hBo,eq_true hg,a2.live,a2.bt, ↓ag 228];refine aP ?_;intro F hF;obtain⟨M1,wF⟩:∃z,z=pl m 1:=⟨_,rfl⟩;rw[←wF];have q0:B f m F M1:=by rw[hF,wF];exact(B.w (m2:=m) Qe E1)
   obtain⟨bX,YJ⟩:∃o,o=own:=⟨_,rfl⟩;have q1:Fr (λ_=>False) own f m bX F M1:=by rw[YJ];exact q0.fr _ _
   have a0:F m=(.row 153 5 0 true [.num 0,.num 0,.num 0,.num 0,.num 0] (.cf (bI [Q i,Q g,Q r,Q x,Q l]))):=O2;replace a1:=a1.ah q1 id;replace a2:=a2.ah q1 id;replace a3:=a3.ah q1 id;have zA:cC a.l i=none\/cC a.l i=some (.ptr aF1 0):=.inr hB;have ap0:s.sp.length<=aEY:=hsk;have Ur:m<M1:=Zm;have hSi:S i=none/\s.sp= []\/S i=some s:=.inr hs
 case' aF1=>
  have hB0:=H.no i hs;refine cUx func145 ?_;simp only[go_sem,hii,b1,b2,b3,c1,c2,c3,hX,hM,n1,n2,hB0, ↓ag 228];refine aP ?_;intro F hF;obtain⟨M1,wF⟩:∃z,z=pl m 3:=⟨_,rfl⟩;rw[←wF];obtain⟨s,LH⟩:∃s:Pc,s=⟨g,[],λ_=>0⟩:=⟨_,rfl⟩;obtain⟨aF1,hBd⟩:∃b,b=pl m 2:=⟨_,rfl⟩;rw[←hBd];have hmB:m≠aF1:=by rw[hBd];unfold pl;omega
  obtain⟨rm,hrd⟩:∃b,b=pl m 1:=⟨_,rfl⟩;have hmr:m≠rm:=by rw[hrd];unfold pl;omega
  obtain⟨rl,hrl⟩:∃l:List (Int×V×Nat),l= []:=⟨_,rfl⟩;obtain⟨d,hrk⟩:∃b,b=0:=⟨_,rfl⟩;obtain⟨bX,YJ⟩:∃o,o=cm own m [0,402+3*i,400+3*i]:=⟨_,rfl⟩;have q1:Fr (λ_=>False) own f m bX F M1:=by rw[YJ,wF];refine Fr.cm (P:=λ_=>False) (B.fr ?_ _ _) (bP _);rw[hF];exact(B.w (m2:=m) Qe E1)
  have a0:F m=(.row 153 5 0 true [.num 0,.num 0,.num 0,.num 0,.num 0] (.cf (bI [Q i,Q g,Q r,Q x,Q l]))):=O7;have hg:s.g=g:=by rw[LH]
  have a1:At bX (400+3*i) F M1 aF1 (.row 220 3 0 true [.au,.num 0,.fR] (.cf (bI [.au,Q s.g,.map rm]))):=by rw[YJ,hBd,hrd,wF,hg];exact gh (i:=2) O7 rfl (bP _)
  have a3:At bX (402+3*i) F M1 rm (.map (enc rl) d):=by rw[YJ,hrd,wF,hrl,hrk];exact gh (i:=1) (by rw[hF];refine zS ?_;rfl) rfl (bP _)
  have a2:bS bX (401+3*i) F M1 222 2 .au s.sp.length (ub s.sp):=by rw[LH];exact bS.nil
  have a4:Wf rl d:=by rw[hrl];exact Wf.nil _
  have a5:∀x v,cC rl x=some v->∃y:Int,v=Q y:=λx v h=>by rw[hrl] at h;cases h
  have a6:∀x,(cC rl x).getD (Q 0)=Q (s.rg x)/\s.rg x<=9223372036854775807:=λx=>by rw[hrl,LH];exact⟨rfl,by show(0:Int)<=9223372036854775807;decide⟩
  have zA:cC a.l i=none\/cC a.l i=some (.ptr aF1 0):=.inl hB0;have ap0:s.sp.length<=aEY:=by rw[LH];exact kU _
  have Ur:m<M1:=Zm;have hSi:S i=none/\s.sp= []\/S i=some s:=.inl ⟨hs,by rw[LH]⟩
 all_goals
  clear hF;have k1:=H.k1;apply(abr a2 Z x l).bu;rintro u f2 C ⟨hu,q2⟩;have l2:=q2.le;have H1:=H.ah q1 (λ_ _=>id);rcases hu with rfl|⟨nv,sp',rfl,hsl,hfs⟩
  .refine zS ?_;exact no 19 _ _ ⟨cL q1.le q2.le,λy hy=>by rw[q2.ah y (bW hy q1.le)];exact q1.ah y hy id⟩
  obtain⟨g9,r3,s3⟩:=hfs.to q2 bX (401+3*i);have H3:=H1.ah r3 (λ_ _=>id);have b1:=a1.ah r3 id;have b3:=a3.ah r3 id;have c0:=(q2.ah m Ur).trans a0;have YP:=H3.aX.obj;have LP:=H3.am.obj;have UA:=b1.obj;have hR3:=b3.obj;have eBX:aF1≠X:=b1.ne H3.aX Z;have eBM:aF1≠a.M:=b1.ne H3.am Z;have eBR:aF1≠rm:=b1.ne b3 Z;have eRX:rm≠X:=b3.ne H3.aX Z;have eRM:rm≠a.M:=b3.ne H3.am Z;have emX:m≠X:=n1.symm;have emM:m≠a.M:=n2.symm;obtain⟨v0,bb,l1,cc1,hen,hes⟩:=TZ wj (λh=>Q8) a4 (λy v hv=>by obtain⟨z,rfl⟩:=a5 y v hv;exact iW z) x;obtain⟨v0',bb',l1',aC2,apW,apU⟩:=TZ KP (λh=>Q8) H3.wf (λy v hv=>by obtain⟨_,_,_,rfl⟩:=H3.ani hv;exact λh=>Q8) (i:Int);simp only[go_sem,c0,YP,LP,UA,hR3,s3.live,s3.one,eBM.symm,eBR.symm,eRM.symm,emM,hmB,hmr,hen,hes,apW,apU];refine ld ?_;intro aEZ hG;obtain⟨gn,hgn⟩:∃n:Nat,g=n:=⟨g.toNat,Z⟩;obtain⟨xn,hxn⟩:∃n:Nat,x=n:=⟨x.toNat,Z⟩;have eX:Cl R.Y.Y.Y.Y 205 [Q 3,Q i,Q g,Q x] aEZ C (λv f' L=>v= .cI [Q (kN 3 i gn xn),Q 0]/\B aEZ C f' L):=by rw[hgn,hxn];exact oC 3 i gn xn I Z Z Z R.Y.Y aEZ C
  refine eX.go ?_;rintro w f4 m4 ⟨rfl,q4⟩;refine zS ?_;have qs:Fr (λc=>c=60\/c=400+3*i\/c=402+3*i) g9 f2 C g9 aEZ C:=by
   rw[hG]
   repeat (first|exact Fr.refl _ _ _ _|refine Fr.bw ?_ (λ_=>by first|exact .inl H3.am.own|exact .inr (.inl b1.own)|exact .inr (.inr b3.own)))
  have q5:=q4.fr g9 (λ_=>False);have d1:At g9 (400+3*i) aEZ C aF1 (.row 220 3 0 true [.au,.num 0,.fR] (.cf (bI [nv,Q s.g,.map rm]))):=⟨by rw[hG];simp only[go_sem,eBM,eBR],b1.own,b1.lt⟩;have d3:At g9 (402+3*i) aEZ C rm (.map (enc (eJ rl x (Q r) d)) (im rl x d)):=⟨by rw[hG];simp only[go_sem,eRM],b3.own,b3.lt⟩;have dX:At g9 60 aEZ C X (.row 143 1 0 true [.fR] (.cf (bI [.map a.M]))):=⟨by rw[hG];simp only[go_sem,eXM,eRX.symm,eBX.symm];exact YP,H3.aX.own,H3.aX.lt⟩;have dM:At g9 60 aEZ C a.M (.map (enc (eJ a.l i (.ptr aF1 0) a.ck)) (im a.l i a.ck)):=⟨X8,H3.am.own,H3.am.lt⟩;have apk:((kN 3 i gn xn:Nat):Int)<=9223372036854775807:=D7;refine E _ _ _ ⟨_,0,rfl,apk,g9,dE S i (some ⟨s.g,sp',λy=>if y=x then r else s.rg y⟩),⟨{a with l:=eJ a.l i (.ptr aF1 0) a.ck,ck:=im a.l i a.ck},⟨dX.ah q5 id,dM.ah q5 id,H3.wf.set _ _,λp hp=>?_,λj hj=>?_,λj t hj=>?_,Z⟩⟩,λh=>absurd rfl h,λj hj=>dd hj,?_⟩
  .have hpk:p.1∈(eJ a.l i (.ptr aF1 0) a.ck).map (·.1):=fA.2 ⟨p,hp,rfl⟩;rw[EE] at hpk;have apf:p.1∈a.l.map (·.1)\/p.1=i:=by
    by_cases hm:cC a.l i=none
    .rw [ao hm] at hpk;rcases fJ.1 hpk with h|h
     .exact .inl h
     .exact .inr (rY.1 h)
    .rw [aj hm] at hpk;exact .inl hpk
   rcases apf with h|h
   .obtain ⟨p2,QR,e⟩:=fA.1 h;have:=H.ky p2 QR;omega
   .rw [h];omega
  .have xl:j≠i:=λe=>by rw[e,cj] at hj;cases hj
   rw[dd xl] at hj;show cC (eJ a.l i (.ptr aF1 0) a.ck) j=none;rw[dR,aj Z];exact H.no j hj
  .by_cases e:j=i
   .rw [e,cj] at hj;cases hj;rw[e];refine⟨by show sp'.length<=aEY+1;omega,aF1,by show cC (eJ a.l i (.ptr aF1 0) a.ck) i=_;rw[dR,ao rfl],nv,rm,eJ rl x (Q r) d,im rl x d,d1.ah q5 id,(s3.ah qs Z).ah q5 id,d3.ah q5 id,a4.set _ _,λy v hv=>?_,λy=>?_⟩
    .rw [dR] at hv;split at hv
     .cases hv;exact⟨r,rfl⟩
     .exact a5 y v hv
    .rw [dR];show _=Q (if y=x then r else s.rg y)/\(if y=x then r else s.rg y)<=_;by_cases e2:x=y
     .rw [ao e2,ao e2.symm];exact⟨rfl,hr⟩
     .rw [aj e2,aj (λh=>e2 h.symm)];exact a6 y
   .rw [dd e] at hj;obtain⟨h1,B2,N,h3⟩:=H3.pc j t hj;refine⟨Z,B2,?_,(h3.ah qs Z Z Z).ah q5 id id id⟩;show cC (eJ a.l i (.ptr aF1 0) a.ck) j=_;rw[dR,aj Z];exact N
  .exact ((q1.trans r3 (S:=PV) (λ_ h=>h.elim) (λ_ h=>h.elim)).trans qs (λ_ h=>h) W).trans q5 (λ_ h=>h) (λ_ h=>h.elim)
end
section
variable {own:aG} {f:av} {m X aEY:Nat} {S:Nat->Option Pc} {a:IB}
def a2G{R:Rt}(H:gY own f m X aEY S a)(i:Nat):
  Cl R.Y.Y.Y 147 [.ptr X 0,Q i] f m (λv y L=>(∃n:Int,v=Q n)/\(∃a',gY own y L X aEY (dE S i none) a')/\Fr (· =60) own f m own y L):=by
 intro k T E;refine cUx func147 ?_;simp only[go_sem, ↓ag 48];apply(a2F H i).bu;rintro v r d ⟨hv,P⟩;have hn:laN S i<=4000:=by
  unfold laN;cases hs:S i with
  |none=>trivial
  |some s=>have:=(H.pc i s hs).1;have:=H.k1;grind
 have tI:=λq=>hv.jD Z q;have A:=H.gr P;have hi:=Pj A;have hX:=A.aX.obj;have hM:=A.am.obj;have b:X≠a.M:=W;refine zS ?_;refine fG ?_;intro F c;have o:Fr (· =60) own r d own F d:=by rw[c];exact(Fr.w (m2:=d) (by repeat (first|exact Fr.refl _ _ _ _|refine Fr.bw ?_ (by first|exact λh=>absurd h J7|exact λ_=>A.am.own|exact λ_=>.inl A.am.own|exact λ_=>.inr A.am.own))) Z)
 refine E _ _ _ ⟨W,⟨{a with l:=iO a.l i},⟨⟨by rw[c,aE b];trivial,A.aX.own,A.aX.lt⟩,⟨by rw[c];exact aK ..,A.am.own,A.am.lt⟩,A.wf.del _,λp g=>H.ky p (wu _ _ p g),λj z=>?_,λj s z=>?_,H.k1⟩⟩,(P.fr own (· =60)).trans o Z Z⟩
 .show cC (iO a.l i) j=none;rw[jH H.wf.keys];by_cases e:j=i
  .grind
  .rw [aj Z];rw[dd e] at z;exact H.no j z
 .by_cases e:j=i
  .rw [e,cj] at z;trivial
  .rw [dd e] at z;obtain⟨u,t,N,x⟩:=A.pc j s z;refine⟨u,t,?_,x.ah o Z Z Z⟩;show cC (iO a.l i) j=_;rw[jH H.wf.keys,aj Z];trivial
def Kq{R:Rt}(H:gY own f m X aEY S a)(h:Int)(hh:h<=9223372036854775807):
  Cl R.Y.Y.Y.Y.Y 150 [.ptr X 0,Q h] f m (λv y L=>(∃c g r x l e:Int,v= .cI [.agg [Q c,Q g,Q r,Q x,Q l],Q e]/\r<=9223372036854775807)/\B f m y L):=by
 intro k T E;have hX:=H.aX.obj;have hM:=H.am.obj;have lX:=H.aX.lt;have lM:=H.am.lt;have n1:X≠m:=Z;have n2:a.M≠m:=Z;have hii:=λo R M k=>TD (M:=a.M) (F:=bw f m o) (by rw[aE n1];trivial) R M k;have z0:V.num 0=Q 0:=G;have no:∀(e:Int) y L,B f m y L->k (.cI [.agg [Q 0,Q 0,Q 0,Q 0,Q 0],Q e]) (.fn y L)=T:=λe y L q=>W;refine cUx func150 ?_;simp only[go_sem,hii, ↓ag 235];refine aP ?_;intro F j;have q0:B f m F (pl m 1):=Vv;have a0:F m=(.row 153 5 0 true [.num 0,.num 0,.num 0,.num 0,.num 0] (.cf (zf [.num 0,.num 0,.num 0,.num 0,.num 0]))):=J3;apply(vh h hh _ F (pl m 1)).bu;rintro v f1 m1 ⟨rfl,P⟩;have Ei:=q0.trans P;have t:=(P.ah m W).trans a0;have lm1:m<m1:=T4;by_cases h1:hOk h
 case neg=>rw[aj h1];simp only[go_sem,t];exact no 20 _ _ (Ei.bw Z)
 rw[ao h1];by_cases h2:hK h=3
 case neg=>have c2:¬((hK h:Nat):Int)=3:=Z;simp only[go_sem,t,c2];exact no 20 _ _ (Ei.bw Z)
 have c2:((hK h:Nat):Int)=3:=Z;have A:=H.gr Ei;have QZ:=A.aX.obj;have wF:=A.am.obj;cases hs:S (hP h) with
 |none=>have hn:=H.no _ hs;simp only[go_sem,t,c2,QZ,wF,hn];exact no 4 _ _ (Ei.bw Z)
 |some s=>
  obtain⟨hsk,aF1,hB,hP0⟩:=A.pc _ s hs;obtain⟨lv,rm,rl,rk,b1,d,b3,b4,b5,b6⟩:=hP0;have hBo:=b1.obj;have k1:=H.k1;by_cases p:s.g=hG h
  case neg=>simp only[go_sem,t,c2,QZ,wF,hB,hBo,eq_false p];exact no 4 _ _ (Ei.bw Z)
  simp only[go_sem,t,c2,QZ,wF,hB,hBo,eq_true p,d.live,d.bt, ↓ag 236];apply(a78 d.uf Z (hO h)).bu;rintro v f2 C ⟨⟨i,rfl,hi⟩,q2⟩;have II:=Ei.trans q2;have a2:=(q2.ah m lm1).trans t;by_cases hi0:i<0
  case pos=>simp only[go_sem,a2,hi0];exact no 4 _ _ (II.bw Z)
  obtain⟨n,rfl⟩:∃n:Nat,i=n:=⟨i.toNat,Z⟩;have hn:n<s.sp.length:=Z;obtain⟨b,o,cp,mm,fz,w,z,g,ee,hb,hf,nz,h0,h1⟩:=yF (d.uf.gr q2) hn;have aiT:=(b1.ah (q2.fr own (λ_=>False)) id).obj;have c5:o+n*2<mm:=Z;by_cases hx:s.sp[n].1=hO h
  case neg=>subst ee;simp only[go_sem,a2,hi0,aiT,hf,h0,hn,c5,eq_false hx];exact no 4 _ _ (II.bw Z)
  subst ee;simp only[go_sem,a2,hi0,aiT,hf,nz,h0,h1,hn,c5,eq_true hx, ↓ag 77];have hPc:=((A.gr q2).pc _ s hs);obtain⟨_,B2,hB2,hP2⟩:=hPc;rw[hB] at hB2;cases hB2;apply(TK hP2 (hP h) s.sp[n].1 s.sp[n].2).bu;rintro u N m3 ⟨rfl,q3⟩;have a3:=(q3.ah m (bW lm1 q2.le)).trans a2;simp only[go_sem,a3];exact E _ _ _ ⟨W,(II.trans q3).bw Z⟩
def a7s(own f)(m:Nat)(R:Rt):
  Cl R.Y 38 [] f m (λv y L=>∃X t a,v= .ptr X 0/\gY t y L X 0 (λ_=>none) a/\Fr (λ_=>False) own f m t y L):=by
 intro k S E;refine cUx func38 ?_;refine zS ?_;refine fG ?_;intro F j;have o:Fr (λ_=>False) own f m (cm own m [60,60]) F (pl m 2):=Fr.cm (P:=λ_=>False) (B.fr Vu _ _) G;exact E _ _ _ ⟨pl m 1,_,⟨m,[],0⟩,rfl,⟨gh (i:=1) Q0 rfl G,ez Y0 rfl G,Wf.nil _,λp g=>G,λ_ _=>rfl,W,I⟩,o⟩
end
section
variable {own:aG} {f:av} {m X aEY:Nat} {S:Nat->Option Pc} {a:IB} {T n sz K2:Nat} {ph:aG} {ow ge:dc} {xs:aI} {A:SL}
def KV{R:Rt}(H:gY own f m X aEY S a)(H2:i9 own f m T n sz K2 ph ow ge xs A)(h off q:Int)(hh:h<=9223372036854775807):
  Cl R.Y.Y.Y.Y.Y.Y 237 [.ptr T 0,.ptr X 0,Q h,Q off,Q q] f m (λv f' L=>(∃c g r x l e:Int,v= .cI [.agg [Q c,Q g,Q r,Q x,Q l],Q e])/\B f m f' L):=by
 intro k d E;have s:V.num 0=Q 0:=G;have no:∀(e:Int) f' L,B f m f' L->k (.cI [.agg [Q 0,Q 0,Q 0,Q 0,Q 0],Q e]) (.fn f' L)=d:=λe f' L q=>W;have C:=H2.z1;have c0:¬(sz:Int)=0:=Z;have hSz:=λo R k=>SZ (H2.ah ((B.refl f m).new (o:=o) |>.fr own (λ_=>False)) (λ_ _=>id) id id) R (pl m 1) k;refine cUx func237 ?_;simp only[go_sem,hSz,c0, ↓ag 150];refine aP ?_;intro F j;have q0:B f m F (pl m 1):=Vv;have a0:F m=(.row 153 5 0 true [.num 0,.num 0,.num 0,.num 0,.num 0] (.cf (zf [.num 0,.num 0,.num 0,.num 0,.num 0]))):=J3;apply(Kq (H.gr q0) h hh).bu;rintro v f1 m1 ⟨⟨c,g,r,x,l,e,rfl,_⟩,P⟩;have Ei:=q0.trans P;have t:=(P.ah m W).trans a0;have lm1:m<m1:=T4;have u:m≠m1:=Z;have L4:∀z,laid 0 [Q c,Q g,Q r,Q x,Q l] z 4=Q l:=λz=>rfl;by_cases b:e=0
 case neg=>simp only[go_sem,t,u,eq_false b];exact no e _ _ ⟨W8,λy p=>Qv⟩
 by_cases c1:4096<q
 case pos=>simp only[go_sem,t,u,eq_true b,c1];exact no 5 _ _ ⟨W8,λy p=>Qv⟩
 have N:∀i,(∀y,y<m->i y=f1 y)->k (.cI [.agg [Q 0,Q 0,Q 0,Q 0,Q 0],Q 15]) (.fn i (pl m1 1))=d:=λi h=>no 15 _ _ ⟨W8,λy p=>(h y p).trans (Ei.ah y p)⟩;by_cases c2:off<0
 case pos=>simp only[go_sem,t,u,eq_true b,c1,c2];exact N _ (λy p=>Qx)
 by_cases c3:q<0
 case pos=>simp only[go_sem,t,u,eq_true b,c1,c2,c3];exact N _ (λy p=>Qx)
 by_cases c4:l<off
 case pos=>simp only[go_sem,t,u,eq_true b,c1,c2,c3,c4];exact N _ (λy p=>Qx)
 by_cases M:IntKind.i64.wrap (l-off)<q
 case pos=>simp only[go_sem,t,u,eq_true b,c1,c2,c3,c4,M];exact N _ (λy p=>Qx)
 simp only[go_sem,t,u,eq_true b,c1,c2,c3,c4,M];exact E _ _ _ ⟨W,⟨W8,λy p=>Qv⟩⟩
def XQ{R:Rt}(H:gY own f m X aEY S a)(H2:i9 own f m T n sz K2 ph ow ge xs A)(C:∀x,m<=x->own x=0)(h off:Int)(t)(hh:h<=9223372036854775807)(ht:∀b∈t,b<256)(hl:t.length<=9223372036854775807):
  Cl R.Y.Y.Y.Y.Y.Y.Y 151 [.ptr T 0,.ptr X 0,Q h,Q off,.str t] f m (λv f' L=>(∃e:Int,v=Q e)/\i9 own f' L T n sz K2 ph ow ge xs A/\Fr PS own f m own f' L):=by
 intro k T' E;have mO:∀q,lnT (.str t) q=q (Q t.length):=λq=>Aj hl q;refine cUx func151 ?_;simp only[go_sem,mO, ↓ag 237];apply(KV H H2 h off t.length hh).bu;rintro v f1 m1 ⟨⟨c,g,r,x,l,e,rfl⟩,P⟩;have M:∀o u,B f m (bw (bw f1 m1 o) m1 u) (pl m1 1):=λo u=>⟨Y2,λy p=>Ve⟩;by_cases he:e=0
 case neg=>refine zS ?_;exact E _ _ _ ⟨W,H2.ah ((M _ _).fr own (λ_=>False)) (λ_ _=>id) id id,(M _ _).fr _ _⟩
 have i:∀z,laid 0 [Q c,Q g,Q r,Q x,Q l] z 0=Q c:=λz=>rfl;have d:∀z,laid 0 [Q c,Q g,Q r,Q x,Q l] z 1=Q g:=λz=>rfl;have w:∀z,laid 0 [Q c,Q g,Q r,Q x,Q l] z 3=Q x:=λz=>rfl;simp only[go_sem,eq_true he, ↓ag 238];refine aP ?_;intro F j;have q2:B f m F (pl m1 1):=by rw[j];exact W
 refine(a1O (H2.ah (q2.fr own (λ_=>False)) (λ_ _=>id) id id) (λy p=>C y D6) c g _ t ht hl).bu ?_;rintro v N s ⟨⟨e3,rfl⟩,s3,q3⟩;refine zS ?_;exact E _ _ _ ⟨W,s3,(q2.fr own PS).trans q3 (λ_ h=>h) (λ_ h=>h)⟩
def a3s{R:Rt}(H:gY own f m X aEY S a)(C:i9 own f m T n sz K2 ph ow ge xs A)(h off q:Int)(hh:h<=9223372036854775807):
  Cl R.Y.Y.Y.Y.Y.Y.Y 152 [.ptr T 0,.ptr X 0,Q h,Q off,Q q] f m (λv f' L=>(∃(s:aI) (e:Int),v= .cI [.str s,Q e]/\(∀b∈s,b<256)/\(e≠0->s= []))/\B f m f' L):=by
 intro k T' E;refine cUx func152 ?_;simp only[go_sem, ↓ag 237];apply(KV H C h off q hh).bu;rintro v f1 t ⟨⟨c,g,r,x,l,e,rfl⟩,P⟩;have qn:∀o u,B f m (bw (bw f1 t o) t u) (pl t 1):=λo u=>⟨Y2,λy p=>Ve⟩;by_cases he:e=0
 case neg=>refine zS ?_;grind
 have i:∀z,laid 0 [Q c,Q g,Q r,Q x,Q l] z 0=Q c:=λz=>rfl;have d:∀z,laid 0 [Q c,Q g,Q r,Q x,Q l] z 1=Q g:=λz=>rfl;have w:∀z,laid 0 [Q c,Q g,Q r,Q x,Q l] z 3=Q x:=λz=>rfl;simp only[go_sem,eq_true he, ↓ag 239];refine aP ?_;intro F j;have q2:B f m F (pl t 1):=by rw[j];exact W
 refine(a77 (C.ah (q2.fr own (λ_=>False)) (λ_ _=>id) id id) c g _ q).bu ?_;rintro v N m3 ⟨q3,s,e3,rfl,M,_,he3⟩;refine zS ?_;exact E _ _ _ ⟨W,q2.trans q3⟩
end
variable{w1 w2 w3 w4:Bool}{dr i p1 p4:Nat}{z2 z3 z4:ay}
def ed(acc:Nat->Acc)(os:aI)(i:Nat):Acc:=acc (os.getD i 0)
def goI(acc:Nat->Acc)(os:aI)(done:bs)(fr:Int)(i:Nat):Bool:=!done i&&decide ((ed acc os i).c-(ed acc os i).h<=fr)
def zt(acc:Nat->Acc)(os:aI)(done:bs)(fr:Int):Int:=l8 (goI acc os done fr) 0 os.length
section
variable {f:av} {m:Nat} {v:V} {acc:Nat->Acc} {os:aI}
def xY(h:i7 f m 149 4 v os.length (fM acc os))(F:i<os.length):∃b o cp mm fz w zs g,v= .sl b o os.length cp/\b<m/\f b= .row 149 mm fz w zs (.cf g)/\o+i*4+4<=mm/\g (o+i*4)=Q os[i]/\g (o+i*4+1)=Q (ed acc os i).c/\g (o+i*4+2)=Q (ed acc os i).h/\g (o+i*4+3)=Q (ed acc os i).r:=by
 obtain⟨b,o,cp,mm,fz,w,zs,g,A,N,M,u,a⟩:=h.at F;have S:=lP acc os i F;have e:ed acc os i=acc os[i]:=by unfold ed;rw[xx,bT F];rfl
 rw[e];exact⟨b,o,cp,mm,fz,w,zs,g,A,N,M,u,(a 0 I).trans (S 0 I),W,W,W⟩
def Ku{R:Rt}(h:i7 f m 149 4 v os.length (fM acc os))(hn:os.length<=64)(P:∀i,i<os.length->qk (ed acc os i)){p2:Nat}{done:bs}{fr:Int}{gd:dA}{j:ay}
  (l1:p1<m) (h1:f p1= .row 33 1 0 w1 j (.cf (bI [v]))) (l2:p2<m) (z:dA) (N:f p2= .row 3 1 0 w2 z2 (.cf z)) (h2':z 0=Q fr) (l4:p4<m) (g4:dA) (h4:f p4= .row 640 1 0 w4 z4 (.cf g4)) (h4':g4 0= .sl dr 0 os.length (.known os.length)) (l3:dr<m) (M:f dr= .row 4 os.length 0 w3 z3 (.cf gd)) (hd:∀i,i<os.length->gd i= .bool (done i)):
  Cl R.Y.Y.Y.Y 517 [.ptr p1 0,.ptr p4 0,.ptr p2 0] f m (λu y L=>u=Q (zt acc os done fr)/\B f m y L):=by
 intro k aEY hk;have tI:=λq=>h.jD Z q;have hv:=h.bC;have hvo:∀q d,V.bt v q d=q v:=λq d=>O0;refine cUx func517 ?_;refine zS ?_;refine kW (n:=os.length+1) (aF0:=λr e y L=>∃i:Nat,i+r=os.length+1/\1<=r/\(eg 1).get e= .ptr p4 0/\(eg 2).get e= .ptr p2 0/\(eg 6).get e=v/\(eg 7).get e=Q os.length/\(eg 8).get e=Q i/\B f m y L/\zt acc os done fr=l8 (goI acc os done fr) i (os.length-i))
  (E:=λx e y L=>B f m y L/\(x= .exit 0/\zt acc os done fr= -1\/x= .ret/\(eg 3).get e=Q (zt acc os done fr))) ?_ J2 ?_ ?_
 .exact ⟨0,Z,Z,E6,E6,E6,E6,E6,B.refl _ _,rfl⟩
 .rintro r e f1 l ⟨i,hr,Hy,e1,e2,e6,e7,e8,p,S⟩ rr kx lR hE;unfold iB;by_cases F:i<os.length
  .have c1:(i:Int)<os.length:=by omega
   obtain⟨b,o,cp,mm,t,w,zs,g,rfl,s,H,nz,m0,m1',C,m3⟩:=xY (h.gr p) F;have ew:IntKind.i64.wrap ((i:Int)+1)=((i+1:Nat):Int):=Qf;have k4:=(p.ah p4 l4).trans h4;have k2:=(p.ah p2 l2).trans N;have k3:=(p.ah dr l3).trans M;have lm:=p.le;have n4:p4≠l:=Z;have n2:p2≠l:=Z;have n3:dr≠l:=Z;have n2':p2≠pl l 1:=W;have ay5:p2≠pl l 2:=W;have hdi:=hd i F;rw[show os.length-i=os.length-(i+1)+1 by omega,tK] at S;cases hdn:done i with
   |true=>
    rw[hdn] at hdi;have hgo:goI acc os done fr i=false:=by unfold goI;rw[hdn];rfl
    rw[hgo] at S;refine zS ?_;exact lR (r-1) _ _ _ Z ⟨i+1,Z,Z,E6,E6,E6,E6,E6,(B.w (m2:=l) Qk E9),S⟩
   |false=>
    rw[hdn] at hdi;have hgo:goI acc os done fr i=decide ((ed acc os i).c-(ed acc os i).h<=fr):=by unfold goI;rw[hdn];simp
    rw[hgo] at S;have Cq:=a5N (a:=ed acc os i) W;by_cases hle:(ed acc os i).c-(ed acc os i).h<=fr
    .rw [dI hle] at S;refine zS ?_;exact hE _ _ _ _ ⟨(B.w (m2:=l) Qk E9),.inr ⟨rfl,Zl⟩⟩
    .rw [dB hle] at S;refine zS ?_;exact lR (r-1) _ _ _ Z ⟨i+1,Z,Z,E6,E6,E6,E6,E6,(B.w (m2:=l) Qk E9),S⟩
  .have c1:¬(i:Int)<os.length:=by omega
   refine zS ?_;refine hE _ _ _ _ ⟨p,.inl ⟨rfl,?_⟩⟩;rw[S,show os.length-i=0 by omega];rfl
 .rintro x e f1 l ⟨p,⟨rfl,S⟩|⟨rfl,A⟩⟩
  .simp only[go_sem];grind
  .simp only[go_sem,A];grind
end
variable{free:Int}{xs:ay}{k:cR}
def SS(acc:Nat->Acc)(os:aI):Nat->bs->Int->Nat
 |0,_,_=>0
 |k+1,done,f=>if zt acc os done f<0 then 0 else SS acc os k (fB done (zt acc os done f).toNat true) (f+(ed acc os (zt acc os done f).toNat).h)+1
def XB(acc:Nat->Acc)(os)(done:bs)(fr:Int):zt acc os done fr= -1\/∃i:Nat,i<os.length/\zt acc os done fr=i/\done i=false:=by
 rcases iZ (goI acc os done fr) 0 os.length with⟨h,_⟩|⟨j,_,A,N,M,_⟩
 .exact .inl h
 .refine .inr ⟨j,Z,M,?_⟩;unfold goI at N;grind
def ajA{C:Ctx}{R:Rt}{w:V}{T:Bool}(h:∀i,i=F->sN C R w xs (.fn i M) k=T):sN C R w xs (.fn F M) k=T:=W
section
variable {own:aG} {f:av} {m:Nat} {v:V} {acc:Nat->Acc} {os:aI}
def Po{R:Rt}(hn:os.length<=64)(hS:∀i,i<os.length->qk (ed acc os i)){y p2:Nat}(hf0:0<=free)(hf1:free<=1048576)
  (hv:∀t f' L,Fr xp own f m t f' L->i7 f' L 149 4 v os.length (fM acc os)/\f' p1=(.row 33 1 0 true [.au] (.cf (bI [v]))))
  (m1:p1<m) (N:At own 7 f m p2 (.row 3 1 0 true [.num 0] (.cf (bI [Q free]))))
  (X:Nat->aG->av->dF)
  (hX:∀j own f m t f' L,X j own f m->Fr (· =7) own f m t f' L->X j t f' L)
  (h0:X 0 own f m)
  (hy:∀j own f m (x z:Int),j<os.length->X j own f m->Rd R.Y.Y.Y.Y y [Q x,Q z] f m (λb f' L=>b=true/\∃t,X (j+1) t f' L/\Fr (λc=>c=3\/c=4) own f m t f' L)):
  Cl R.Y.Y.Y.Y.Y 516 [.yield y,.ptr p1 0,.ptr p2 0] f m (λ_ f' L=>∃t,X (SS acc os os.length (λ_=>false) free) t f' L/\Fr xp own f m t f' L):=by
 intro k aEY hk;obtain⟨hI0,yl⟩:=hv _ _ _ (Fr.refl xp own f m);have tI:=λq=>hI0.jD Z q;have hvu:=hI0.bC;have hvo:∀q d,V.bt v q d=q v:=λq d=>by rcases hI0 with⟨rfl,_⟩|⟨_,_,_,_,_,_,_,_,rfl,_⟩<;>rfl
 have d0:(0:Int)<=(os.length:Nat):=Z;have d1:os.length<=4294967296:=Z;have d2:os.length<=281474976710656:=Z;have d2':1*os.length<=281474976710656:=Z;have d5:os.length<=9223372036854775807:=Z;have l2:=N.lt;have n1:p1≠m:=Z;have n1':p1≠pl m 1:=W;have n2:p2≠m:=Z;have n2':p2≠pl m 1:=W;refine cUx func516 ?_;simp only[go_sem,yl,tI,hvo,d1,d2,Nat.one_mul, ↓ag 517];refine aP ?_;intro F hF;have h7:∀c:Nat,c=7->xp c:=λc h=>.inr (.inr h);have h34:∀c:Nat,c=3\/c=4->xp c:=λc h=>h.elim .inl (λh=>.inr (.inl h));have q0:Fr (· =7) own f m (cm own m [7,7]) F (pl m 2):=by refine Fr.cm (P:=(· =7)) (B.fr ?_ _ _) (bP _);rw[hF];exact(B.w (m2:=m) Qe E1)
 have q0w:=q0.mono h7;have aD:At (cm own m [7,7]) 7 F (pl m 2) m (.row 4 os.length 0 true [.bool false] (.cf (zf [.bool false]))):=ez O7 rfl (bP _);have a4:At (cm own m [7,7]) 7 F (pl m 2) (pl m 1) (.row 640 1 0 true [.au] (.cf (cy (zf [.au]) 0 (.sl m 0 os.length (.known os.length))))):=gh O2 rfl (bP _);have a2:At (cm own m [7,7]) 7 F (pl m 2) p2 (.row 3 1 0 true [.num 0] (.cf (bI [Q free]))):=⟨by rw[hF];refine zS ?_;exact N.obj,by unfold cm;rw[aj Z];exact N.own,W⟩;obtain⟨hIF,hpF⟩:=hv _ _ _ q0w;apply(Ku (done:=λ_=>false) (fr:=free) hIF hn hS (p1:=p1) (p2:=p2) (p4:=pl m 1) (dr:=m) W hpF a2.lt _ a2.obj rfl a4.lt _ a4.obj (cd ..) aD.lt aD.obj (λi _=>nU _ i)).bu;rintro u f1 m1' ⟨rfl,q1⟩;refine zS ?_;have e24:p2≠pl m 1:=n2';refine cU (x:=.exit 0) (n:=os.length+1) (aF0:=λr e f' L=>∃(j:Nat) (t:aG) (done:bs) (fr:Int) (g2 a:dA) (D:aI),j+r=os.length+1/\D.length=j/\D.Nodup/\(∀i∈D,i<os.length)/\(∀i,done i=true->i∈D)/\(∀i∈D,done i=true)/\0<=fr/\fr<=1048576+1048576*j/\SS acc os os.length (λ_=>false) free=j+SS acc os (os.length-j) done fr/\
   (eg 0).get e= .yield y/\(eg 1).get e= .ptr p1 0/\(eg 2).get e= .ptr p2 0/\(eg 4).get e= .ptr (pl m 1) 0/\(eg 5).get e= .fn 517 [] [.ptr p1 0,.ptr (pl m 1) 0,.ptr p2 0]/\(eg 6).get e=Q (zt acc os done fr)/\
   At t 7 f' L p2 (.row 3 1 0 true [.num 0] (.cf g2))/\g2 0=Q fr/\At t 7 f' L (pl m 1) (.row 640 1 0 true [.au] (.cf (cy (zf [.au]) 0 (.sl m 0 os.length (.known os.length)))))/\At t 7 f' L m (.row 4 os.length 0 true [.bool false] (.cf a))/\(∀i,i<os.length->a i= .bool (done i))/\X j t f' L/\Fr xp own f m t f' L)
  (E:=λe f' L=>∃t,X (SS acc os os.length (λ_=>false) free) t f' L/\Fr xp own f m t f' L) ?_ J2 ?_ ?_
 .have q1':=q1.fr (cm own m [7,7]) (λ_=>False);exact⟨0,cm own m [7,7],λ_=>false,free,_,_,[],Z,rfl,AI,λi hi=>absurd hi lG,λi hi=>(by cases hi),λi hi=>absurd hi lG,hf0,Z,J1,E6,E6,E6,E6,E6,E6,a2.ah q1' id,rfl,a4.ah q1' id,aD.ah q1' id,λi _=>nU _ i,hX 0 _ _ _ _ _ _ (hX 0 _ _ _ _ _ _ h0 q0) (q1.fr _ _),q0w.trans q1' (λ_ h=>h) (λ_ h=>h.elim)⟩
 .rintro r e f2 m2 ⟨j,M,done,fr,g2,a,D,hjr,hDl,hDn,hDm,hD1,hD2,azB,ait,hT,e0,e1,e2,e4,e5,e6,b2,b2',b4,bD,hgd,S,q⟩ rr kx lR hE;unfold iB;have aAv:D.length<=os.length:=dg hDn hDm;rcases XB acc os done fr with hN|⟨i,hi,hN,hdi⟩
  .rw [hN] at e6;refine zS ?_;refine hE _ _ _ ⟨M,?_,q⟩;have:SS acc os (os.length-j) done fr=0:=by
    cases os.length-j with
    |zero=>rfl
    |succ k=>unfold SS;rw[ao Z]
   rw[hT,this];exact S
  .rw [hN] at e6;have c0:(0:Int)<=(i:Nat):=Z;have hiD:i∉D:=λh=>by rw[hD2 i h] at hdi;cases hdi
   have hjn:j<os.length:=by have:=dg (n:=os.length) (l:=i::D) (iK.2 ⟨hiD,hDn⟩) (λz C=>by rcases fY.1 C with rfl|h;exact hi;exact hDm z h);rw[kg] at this;omega
   obtain⟨hI2,QR⟩:=hv _ _ _ q;obtain⟨b,o,cp,mm,fz,w,zs,g,ee,s,hf,nz,k0,k1,k2,k3⟩:=xY hI2 hi;have hA:=hS i hi;unfold qk at hA;have ew:IntKind.i64.wrap (fr+(ed acc os i).h)=fr+(ed acc os i).h:=cB Z;have o2:=b2.obj;have o4:=b4.obj;have oD:=bD.obj;have x24:p2≠pl m 1:=n2';have x2D:p2≠m:=n2;have x4D:pl m 1≠m:=W;have x1D:p1≠m:=n1;have x14:p1≠pl m 1:=n1';have x12:p1≠p2:=λe=>absurd (QR.symm.trans ((congrArg f2 e).trans o2)) (Gt I);have xbD:b≠m:=λe=>absurd (hf.symm.trans ((congrArg f2 e).trans oD)) (Gt I);have xb2:b≠p2:=λe=>absurd (hf.symm.trans ((congrArg f2 e).trans o2)) (Gt I);have hu:=cd (zf [V.au]) 0 (.sl m 0 os.length (.known os.length));have c5:o+i*4<mm:=Z;have c6:o+i*4+1<mm:=Z;have c7:o+i*4+2<mm:=Z;subst ee;refine zS ?_;refine ajA ?_;intro H hG;have p:Fr (· =7) M f2 m2 M H m2:=by rw[hG];exact((Fr.refl _ M f2 m2).bw (λ_=>bD.own)).bw (λ_=>b2.own)
   have c2:At M 7 H m2 p2 (.row 3 1 0 true [.num 0] (.cf (cy g2 0 (Q (fr+(ed acc os i).h))))):=⟨X8,b2.own,b2.lt⟩;have c4:At M 7 H m2 (pl m 1) (.row 640 1 0 true [.au] (.cf (cy (zf [.au]) 0 (.sl m 0 os.length (.known os.length))))):=⟨by rw[hG];simp only[go_sem,x24.symm,x4D];exact o4,b4.own,b4.lt⟩;have cD:At M 7 H m2 m (.row 4 os.length 0 true [.bool false] (.cf (cy a i (.bool true)))):=⟨by rw[hG];simp only[go_sem,x2D.symm],bD.own,bD.lt⟩;refine hy j M H m2 i (fr+(ed acc os i).h) hjn (hX _ _ _ _ _ _ _ S p) _ _ ?_;rintro bb f4 m4 ⟨rfl,cS,Cm,q4⟩;have e2':=c2.ah q4 I;have e4':=c4.ah q4 I;have eD':=cD.ah q4 I;have A:Fr xp own f m cS f4 m4:=(q.trans p (λ_ h=>h) h7).trans q4 (λ_ h=>h) h34;obtain⟨hI4,hp4⟩:=hv _ _ _ A;have aiq:∀z,z<os.length->cy a i (.bool true) z= .bool (fB done i true z):=λz C=>by
    by_cases e:z=i
    .rw [e,cd,fu]
    .rw [a04 e,dn e];exact hgd z C
   simp only[go_sem,e5, ↓ag 517];apply(Ku (done:=fB done i true) (fr:=fr+(ed acc os i).h) hI4 hn hS (p1:=p1) (p2:=p2) (p4:=pl m 1) (dr:=m) (by have:=A.le;omega) hp4 e2'.lt _ e2'.obj (cd ..) e4'.lt _ e4'.obj (cd ..) eD'.lt eD'.obj aiq).bu;rintro u f5 m5 ⟨rfl,q5⟩;have q5':=q5.fr cS (λ_=>False);refine zS ?_;refine lR (r-1) _ _ _ Z ⟨j+1,cS,fB done i true,fr+(ed acc os i).h,_,_,i::D,Z,by rw[kg,hDl],iK.2 ⟨hiD,hDn⟩,λz C=>?_,λz C=>?_,λz C=>?_,Z,Z,?_,E6,E6,E6,E6,E6,E6,e2'.ah q5' id,cd ..,e4'.ah q5' id,eD'.ah q5' id,aiq,hX _ _ _ _ _ _ _ Cm (q5.fr _ _),A.trans q5' (λ_ h=>h) (λ_ h=>h.elim)⟩
   .rcases fY.1 C with rfl|h;exact hi;exact hDm z h
   .by_cases e:z=i
    .rw [e];exact ko ..
    .rw [dn e] at C;exact ia _ (hD1 z C)
   .by_cases e:z=i
    .rw [e,fu]
    .rw [dn e];exact hD2 z ((fY.1 C).resolve_left e)
   .rw [hT,show os.length-j=os.length-(j+1)+1 by omega]
    conv=>lhs;unfold SS
    rw[hN,aj Z,iI];omega
 .rintro e f2 m2 ⟨M,S,q⟩;refine zS ?_;exact hk _ _ _ ⟨M,S,q⟩
end
structure Tk where
 i:Nat
 c:Nat
 n:Nat
 s:Nat
 p:Nat
def Tk.cs(t:Tk):ay:=[Q t.i,Q t.c,Q t.n,Q t.s,Q t.p]
def Tk.Ih(t:Tk):t.cs.length=5:=rfl
def TkR(t:Tk):Prop:=0<t.i/\t.c<=63/\1<=t.n/\t.n<=1048576/\1<=t.s/\t.s<=3
def xE(a l h:Int)(A:l<=a)(N:a<=h)(R:Rt)(f)(m:Nat)(k):R.Y.call 417 [Q a,Q l,Q h] (.fn f m) k=k (.bool true) (.fn f m):=by refine cUx func417 ?_;exact zC
def JE(t:Tk)(h:TkR t)(R:Rt)(f)(m:Nat)(k):R.Y.Y.call 359 [.agg [Q t.i,Q t.c,Q t.n,Q t.s,Q t.p]] (.fn f m) k=k (.bool true) (.fn (bw f m (.row 49 5 0 true [.num 0,.num 0,.num 0,.num 0,.num 0] (.cf (bI [Q t.i,Q t.c,Q t.n,Q t.s,Q t.p])))) (pl m 1)):=by obtain⟨A,N,M,u,r,F⟩:=h;have a:(0:Int)<t.i:=Z;have b:(0:Int)<=t.p:=Z;have E:=xE t.c 0 63 Z Z;have d:=xE t.n 1 1048576 Z Z;have e:=xE t.s 1 3 Z Z;refine cUx func359 ?_;exact zC
def abe(i c n:Nat)(A:0<i)(N:c<=63)(M:1<=n)(u:n<=1048576)(R:Rt)(f)(m:Nat):Cl R.Y.Y.Y 287 [Q i,Q c,Q n] f m (λv y L=>v= .cI [.agg [Q i,Q c,Q n,Q 1,Q 0],Q 0]/\B f m y L):=by intro k S E;have t:=JE ⟨i,c,n,1,0⟩ ⟨A,N,M,u,(I:1<=1),(I:1<=3)⟩;change ∀(R:Rt) f m k,R.Y.Y.call _ [.agg [Q i,Q c,Q n,Q 1,Q 0]] (.fn f m) k=k (.bool true) (.fn (bw f m (.row 49 5 0 true [.num 0,.num 0,.num 0,.num 0,.num 0] (.cf (bI [Q i,Q c,Q n,Q 1,Q 0])))) (pl m 1)) at t;refine cUx func287 ?_;simp only[go_sem,DH,t];exact E _ _ _ ⟨rfl,(B.w (m2:=m) Qe E1)⟩
def JD(t:Tk)(h:TkR t)(R:Rt)(f)(m:Nat):Cl R.Y.Y.Y 386 [.agg [Q t.i,Q t.c,Q t.n,Q t.s,Q t.p]] f m (λv y L=>v=Q (if t.s=1 then 0 else 13)/\B f m y L):=by
 intro k S E;have a:=JE t h;by_cases c:t.s=1
 .have c1:(t.s:Int)=1:=by omega
  rw[ao c] at E;simp only[c1] at a;refine cUx func386 ?_;refine zS ?_;exact E _ _ _ ⟨rfl,(B.w (m2:=m) Qd E1)⟩
 .have c1:¬((t.s:Int)=1):=by omega
  rw[aj c] at E;refine cUx func386 ?_;refine zS ?_;exact E _ _ _ ⟨rfl,(B.w (m2:=m) Qd E1)⟩
def SR(t:Tk)(h:TkR t)(s:Nat)(R:Rt)(f)(m:Nat):Cl R.Y.Y.Y.Y 363 [.agg [Q t.i,Q t.c,Q t.n,Q t.s,Q t.p],Q s] f m (λv y L=>v=(if t.s=1 then .cI [.agg [Q t.i,Q t.c,Q t.n,Q s,Q t.p],Q 0] else .cI [.agg [Q 0,Q 0,Q 0,Q 0,Q 0],Q 13])/\B f m y L):=by
 intro k S E;refine cUx func363 ?_;simp only[go_sem,DH, ↓ag 386];refine aP ?_;intro F j;have x:B f m F (pl m 2):=Vu;apply(JD t h _ _ _).bu;rintro v r l ⟨rfl,P⟩;have a:r m= .row 49 5 0 true [Q 0,Q 0,Q 0,Q 0,Q 0] (.cf (bI [Q t.i,Q t.c,Q t.n,Q t.s,Q t.p])):=Vm;have z:r (pl m 1)= .row 49 5 0 true [Q 0,Q 0,Q 0,Q 0,Q 0] (.cf (zf [Q 0,Q 0,Q 0,Q 0,Q 0])):=Qw;have o:=x.trans P;by_cases c:t.s=1
 .rw [ao c] at E ⊢;refine zS ?_;exact E _ _ _ ⟨rfl,(B.w (m2:=l) Qo Z)⟩
 .rw [aj c] at E ⊢;refine zS ?_;exact E _ _ _ ⟨rfl,(B.w (m2:=l) Qo Z)⟩
def a1z(t:Tk)(h:TkR t)(R:Rt)(f)(m:Nat):Cl R.Y.Y.Y.Y.Y 392 [.agg [Q t.i,Q t.c,Q t.n,Q t.s,Q t.p]] f m (λv y L=>v=(if t.s=1 then .cI [.agg [Q t.i,Q t.c,Q t.n,Q 2,Q t.p],Q 0] else .cI [.agg [Q 0,Q 0,Q 0,Q 0,Q 0],Q 13])/\B f m y L):=by
 intro k S E;refine cUx func392 ?_;simp only[go_sem,DH, ↓ag 363];refine aP ?_;intro F j;have x:B f m F (pl m 2):=Vu;apply(SR t h 2 _ _ _).bu;rintro v r l ⟨rfl,P⟩;have z:r (pl m 1)= .row 49 5 0 true [Q 0,Q 0,Q 0,Q 0,Q 0] (.cf (zf [Q 0,Q 0,Q 0,Q 0,Q 0])):=Qw;have o:=x.trans P;by_cases c:t.s=1
 .rw [ao c] at E ⊢;refine zS ?_;exact E _ _ _ ⟨rfl,(B.w (m2:=l) Qo Z)⟩
 .rw [aj c] at E ⊢;refine zS ?_;exact E _ _ _ ⟨rfl,(B.w (m2:=l) Qo Z)⟩
def VU(t:Tk)(h:TkR t)(R:Rt)(f)(m:Nat):Cl R.Y.Y.Y.Y.Y 292 [.agg [Q t.i,Q t.c,Q t.n,Q t.s,Q t.p]] f m (λv y L=>v=(if t.s=1 then .cI [.agg [Q t.i,Q t.c,Q t.n,Q 3,Q t.p],Q 0] else .cI [.agg [Q 0,Q 0,Q 0,Q 0,Q 0],Q 13])/\B f m y L):=by
 intro k S E;refine cUx func292 ?_;simp only[go_sem,DH, ↓ag 363];refine aP ?_;intro F j;have x:B f m F (pl m 2):=Vu;apply(SR t h 3 _ _ _).bu;rintro v r l ⟨rfl,P⟩;have z:r (pl m 1)= .row 49 5 0 true [Q 0,Q 0,Q 0,Q 0,Q 0] (.cf (zf [Q 0,Q 0,Q 0,Q 0,Q 0])):=Qw;have o:=x.trans P;by_cases c:t.s=1
 .rw [ao c] at E ⊢;refine zS ?_;exact E _ _ _ ⟨rfl,(B.w (m2:=l) Qo Z)⟩
 .rw [aj c] at E ⊢;refine zS ?_;exact E _ _ _ ⟨rfl,(B.w (m2:=l) Qo Z)⟩
def a6P(t:Tk)(h:TkR t)(g:t.p<1099511627776)(R:Rt)(f)(m:Nat):Cl R.Y.Y.Y.Y.Y 331 [.agg [Q t.i,Q t.c,Q t.n,Q t.s,Q t.p]] f m (λv y L=>v=(if t.s=1 then .cI [.agg [Q t.i,Q t.c,Q t.n,Q t.s,Q (t.p+1:Nat)],Q 0] else .cI [.agg [Q 0,Q 0,Q 0,Q 0,Q 0],Q 13])/\B f m y L):=by
 intro k S E;have N:IntKind.i64.wrap ((t.p:Int)+1)=((t.p+1:Nat):Int):=Qf;have c2:¬((1099511627776:Int)<=t.p):=Z;refine cUx func331 ?_;simp only[go_sem,DH, ↓ag 386];refine aP ?_;intro F j;have x:B f m F (pl m 2):=Vu;apply(JD t h _ _ _).bu;rintro v r l ⟨rfl,P⟩;have a:r m= .row 49 5 0 true [Q 0,Q 0,Q 0,Q 0,Q 0] (.cf (bI [Q t.i,Q t.c,Q t.n,Q t.s,Q t.p])):=Vm;have z:r (pl m 1)= .row 49 5 0 true [Q 0,Q 0,Q 0,Q 0,Q 0] (.cf (zf [Q 0,Q 0,Q 0,Q 0,Q 0])):=Qw;have o:=x.trans P;by_cases c:t.s=1
 .rw [ao c] at E ⊢;simp only[go_sem,a,z,N,c2];exact E _ _ _ ⟨rfl,(B.w (m2:=l) Qo Z)⟩
 .rw [aj c] at E ⊢;refine zS ?_;exact E _ _ _ ⟨rfl,(B.w (m2:=l) Qo Z)⟩
variable{j:Nat}{y:av}{zs:ay}
def a0Y(h:∀v∈zs,v≠ .undef)(h0:0<zs.length)(j:Nat):zf zs j≠ .undef:=by show(zs[j%zs.length]?).getD .undef≠ .undef;have:=ke j h0;grind
def gz(ts:List Tk):ay:=ts.flatMap Tk.cs
def Nv(ts:List Tk)(x:Int):Bool:=decide (1<=x)&&((ts[x.toNat-1]?).map (λt=>decide (t.s=1))).getD false
def Ko{ts:List Tk}{x:Int}(h:Nv ts x=true):∃j,∃h:j<ts.length,x=((j+1:Nat):Int)/\ts[j].s=1:=by unfold Nv at h;grind
def GI{ts:List Tk}(h:j<ts.length):Nv ts ((j+1:Nat):Int)=decide (ts[j].s=1):=by unfold Nv;grind
structure uv where
 bv:V
 mp:Nat
 l:List (Int×V×Nat)
 ck:Nat
@[grind cases] structure ft(own:aG)(f:av)(m aF1:Nat)(ts:List Tk)(a:uv):Prop where
 aB:At own 35 f m aF1 (.row 210 2 0 true [.au,.fR] (.cf (bI [a.bv,.map a.mp])))
 bv:bS own 36 f m 49 5 a.bv ts.length (gz ts)
 am:At own 35 f m a.mp (.map (enc a.l) a.ck)
 wf:Wf a.l a.ck
 mo:∀x:Int,cC a.l x=if Nv ts x=true then some (.agg []) else none
 id:∀j (h:j<ts.length),ts[j].i=j+1
 ok:∀t∈ts,TkR t
 ps:∀t∈ts,t.p<=1073741824
 ln:ts.length<=200
section
variable {own:aG} {f:av} {m aF1:Nat} {ts:List Tk} {a:uv}
def ft.ah{P:dF}{t:aG}{L:Nat}(h:ft own f m aF1 ts a)(q:Fr P own f m t y L)(g:¬P 35/\¬P 36):ft t y L aF1 ts a:=
 ⟨h.aB.ah q W,h.bv.ah q W,h.am.ah q W,h.wf,h.mo,h.id,h.ok,h.ps,h.ln⟩
@[grind →] theorem ft.gr{L:Nat}(h:ft own f m aF1 ts a)(q:B f m y L):ft own y L aF1 ts a:=h.ah (q.fr own (λ_=>False)) G
def CV(aF1:Nat)(x)(y:Nat)(F)(q:F aF1=(.row 210 2 0 true [.au,.fR] (.cf (bI [x,.map y]))))(R:Rt)(L:Nat)(k):R.Y.call 72 [.ptr aF1 0] (.fn F L) k=k (.bool true) (.fn F L):=by refine cUx func72 ?_;exact zC
def ft.keys(H:ft own f m aF1 ts a):∀p∈a.l,1<=p.1/\p.1<=ts.length:=by
 intro p g;have A:cC a.l p.1≠none:=λh=>lO.1 h W;rw[H.mo] at A;split at A
 .rename_i N;obtain⟨j,z,e,_⟩:=Ko N;omega
 trivial
def ft.agS(H:ft own f m aF1 ts a):a.l.length<=ts.length:=by have A:=dg (n:=ts.length) (l:=a.l.map λp=>p.1.toNat-1) (by have:=H.wf.keys;rw[pq,uA] at this ⊢;exact this.imp_of_mem (λ{x y} S b h e=>h (by have:=H.keys x S;have:=H.keys y b;omega))) (λx S=>by obtain⟨p,g,rfl⟩:=fA.1 S;have:=H.keys p g;omega);grind
def x9{R:Rt}(H:ft own f m aF1 ts a)(x:Int):
  Cl R.Y.Y 214 [.ptr aF1 0,Q x] f m (λv y L=>v=(if 1<=x then match ts[x.toNat-1]? with|some t=>.cI [.agg [Q t.i,Q t.c,Q t.n,Q t.s,Q t.p],Q 0]|none=>.cI [.agg [Q 0,Q 0,Q 0,Q 0,Q 0],Q 12] else .cI [.agg [Q 0,Q 0,Q 0,Q 0,Q 0],Q 12])/\B f m y L):=by
 intro k T E;have M:=H.aB.obj;have u:aF1≠m:=I9;have F:=CV aF1 a.bv a.mp;have d:=H.ln;have n9:ts.length<=9223372036854775807:=Z;by_cases A:1<=x
 case neg=>rw[aj A] at E;have c1:x<1:=Z;refine cUx func214 ?_;simp only[go_sem,DH,F,M,u,c1];exact E _ _ _ ⟨rfl,(B.w (m2:=m) Qc E1)⟩
 rw[ao A] at E;have c1:¬(x<1):=Z;obtain⟨j,rfl⟩:∃j:Nat,x=((j+1:Nat):Int):=⟨x.toNat-1,Z⟩;have e0:((j+1:Nat):Int).toNat-1=j:=Z;rw[e0] at E;have hl:=H.bv;by_cases N:j<ts.length
 .rw [bT N] at E;have c2:¬((ts.length:Int)<((j+1:Nat):Int)):=Z;have ew:IntKind.i64.wrap (((j+1:Nat):Int)-1)=(j:Nat):=Ql;obtain⟨b,o,S,mm,fz,w,P,g,ee,r,hf,l,hg⟩:=H.bv.uf.at N;have h:=λq hq=>(hg q hq).trans (flat_get Tk.Ih ts N hq);have g0:g (o+j*5)=Q (ts[j].i:Nat):=h 0 I;have g1:g (o+j*5+1)=Q (ts[j].c:Nat):=h 1 I;have z:g (o+j*5+2)=Q (ts[j].n:Nat):=h 2 I;have g3:g (o+j*5+3)=Q (ts[j].s:Nat):=h 3 I;have g4:g (o+j*5+4)=Q (ts[j].p:Nat):=h 4 I;rw[ee] at M F;have e2:b≠m:=Z;have c3:o+j*5<mm:=Z;refine cUx func214 ?_;simp only[go_sem,DH,F,M,u,e2,c1,c2,n9,ew,N,hf,l,g0,g1,z,g3,g4];exact E _ _ _ ⟨rfl,(B.w (m2:=m) Qc E1)⟩
 .rw [a1k Z] at E;have c2:((ts.length:Int)<((j+1:Nat):Int)):=Z;rcases H.bv.uf.len with⟨e,e3⟩|⟨b,o,S,e⟩
  .rw [e] at M F;rw[e3] at c2;have c2:((0:Int)<((j+1:Nat):Int)):=Z;refine cUx func214 ?_;simp only[go_sem,DH,F,M,u,c1,c2];exact E _ _ _ ⟨rfl,(B.w (m2:=m) Qc E1)⟩
  .rw [e] at M F;refine cUx func214 ?_;simp only[go_sem,DH,F,M,u,c1,c2,n9];exact E _ _ _ ⟨rfl,(B.w (m2:=m) Qc E1)⟩
end
def vY(acc:Nat->Acc)(os:aI)(fr:Int):Bool:=decide (SS acc os os.length (λ_=>false) fr=os.length)
def a1A(acc:Nat->Acc)(os):∀(k:Nat) (done:bs) (fr:Int),SS acc os k done fr<=k
 |0,_,_=>bP _
 |k+1,done,fr=>by
  unfold SS;split
  .omega
  .have:=a1A acc os k (fB done (zt acc os done fr).toNat true) (fr+(ed acc os (zt acc os done fr).toNat).h);omega
def ciM(acc:Nat->Acc)(os:aI)(i j:Nat):Int:=if j=0 then(os.getD i 0:Nat) else if j=1 then(ed acc os i).c else if j=2 then(ed acc os i).h else(ed acc os i).r
def tL(acc:Nat->Acc)(os)(i:Nat)(h:i<os.length)(j:Nat)(z:j<4):bI (fM acc os) (i*4+j)=Q (ciM acc os i j):=by rw[lP acc os i h j z];unfold ciM ed;grind
section
variable {own:aG} {f:av} {m:Nat} {v:V} {acc:Nat->Acc} {os:aI}
def a7A{R:Rt}(h:i7 f m 149 4 v os.length (fM acc os))(hn:os.length<=64)(P:∀i,i<os.length->qk (ed acc os i)){fr:Int}(h0:0<=fr)(A:fr<=1048576):
  Cl R.Y.Y.Y.Y.Y.Y 512 [Q fr,v] f m (λu y L=>u= .bool true/\B f m y L):=by
 intro k b g;refine cUx func512 ?_;simp only[go_sem,h0,A,bN h.bC, ↓ag 515];have E:Cl R.Y.Y.Y.Y.Y 515 [v,.fn 514 [] []] f m (λu y L=>u= .bool false/\B f m y L):=by
  intro k b g;refine cUx func515 ?_;simp only[go_sem,bN h.bC, ↓ag 365];refine(nu h Z (ciM acc os) (λi a j z=>tL acc os i a j z) 514 G [] (λ_=>false) ?_).bu ?_
  .intro i a F M p n x l;have t:=qh (ed acc os i) (P i a).s;rw[dI W] at t;unfold Acc.v Acc.cs at t;show R.Y.Y.Y.call _ [.agg [Q (ciM acc os i 0),Q (ed acc os i).c,Q (ed acc os i).h,Q (ed acc os i).r]] _ _=_;refine cUx func514 ?_;refine zS ?_;exact l _ _ _ ⟨rfl,(B.w (m2:=M) Qd E1)⟩
  rintro u d C ⟨rfl,o⟩;have e:l8 (λ_=>false) 0 os.length= -1:=by
   rcases iZ (λ_=>false) 0 os.length with⟨h,_⟩|⟨j,_,_,N,_⟩
   .exact h
   .trivial
  rw[e];simp only[go_sem];exact W
 refine E.bu ?_;rintro u d C ⟨rfl,o⟩;simp only[go_sem];grind
def WS(fr:Int){v:V}(H:v≠ .undef)(R:Rt)(f)(m:Nat)(k)(A:∀q d,V.bt v q d=q v)(N:∀q,V.one v q=q v)(M:∀q,V.cells v q=q [v]):R.Y.call 513 [Q fr,v] (.fn f m) k=k (.fn 516 [] [.ptr (pl m 1) 0,.ptr m 0]) (.fn (bw (bw f m (.row 3 1 0 true [.num 0] (.cf (bI [Q fr])))) (pl m 1) (.row 33 1 0 true [.au] (.cf (bI [v])))) (pl m 2)):=by refine cUx func513 ?_;exact zC
def WT{R:Rt}(h:i7 f m 149 4 v os.length (fM acc os))(hn:os.length<=64)(hS:∀i,i<os.length->qk (ed acc os i)){fr:Int}(h0:0<=fr)(h1:fr<=1048576):
  Cl R.Y.Y.Y.Y.Y.Y.Y 511 [Q fr,v] f m (λu f' L=>(∃w,w≠ .undef/\u= .cI [w,.bool (vY acc os fr)])/\B f m f' L):=by
 intro k aEY E;have yi:=λq=>bN h.bC q;have A:∀q d,V.bt v q d=q v:=λq d=>O0;have hv3:∀q,V.one v q=q v:=λq=>O0;have hv4:∀q,V.cells v q=q [v]:=λq=>O0;have tI:=λq=>h.jD Z q;have ht:=λR f m k=>WS fr h.bC R f m k A hv3 hv4;have d1:os.length<=4294967296:=Z;have d2:8*os.length<=281474976710656:=Z;have d3:(0:Int)<=(os.length:Nat):=Z;refine cUx func511 ?_;simp only[go_sem,yi, ↓ag 512];apply(a7A h hn hS h0 h1).bu;rintro u f1 l ⟨rfl,q1⟩;refine zS ?_;refine sM ?_;intro lo IL;refine ld ?_;intro F hF;have qF:B f1 l F (pl l 6):=Wi;have q3:Fr (λ_=>False) (λ_=>0) f1 l (cm (λ_=>0) l [3,4,7,0,4,4]) F (pl l 6):=Fr.cm (P:=λ_=>False) (qF.fr _ _) G;have b3:(cm (λ_=>0) l [3,4,7,0,4,4]) (pl l 3)=0:=G0;have hp3:F (pl l 3)=(.row 33 1 0 true [.au] (.cf (bI [v]))):=O7;refine(Po (v:=v) hn hS h0 h1 (own:=cm (λ_=>0) l [3,4,7,0,4,4]) (f:=F) (m:=pl l 6) (p1:=pl l 3) (p2:=pl l 2) (y:=pl l 5) (λt f' L q=>⟨(h.gr q1).gr ((q3.trans q (S:=xp) (λ_ h=>h.elim) (λ_ h=>h)).xD (λx _=>by unfold xp;decide)),(q.ah _ W (by rw[b3];unfold xp;decide)).trans hp3⟩)
  W (gh (i:=2) O7 rfl G)
  (X:=λj t f' L=>∃s g H,At t 4 f' L (pl l 1) (.row 32 1 0 true [.au] (.cf g))/\g 0=s/\bS t 3 f' L 3 1 s j H/\At t 4 f' L (pl l 4) (.sJ (some []))/\At t 4 f' L (pl l 5) lo) ?_ ?_ ?_).go ?_
 .rintro j b f1 l M f2 C ⟨s,g,H,N,h3,h4,r,h6⟩ q;exact⟨s,g,H,N.ah q I,h3,h4.ah q I,r.ah q I,h6.ah q I⟩
 .refine ⟨.sl l 0 0 (.known os.length),cy (zf [.au]) 0 (.sl l 0 0 (.known os.length)),[],⟨?_,?_,?_⟩,G,.inr ⟨l,0,.known os.length,os.length,true,[.num 0],zf [.num 0],rfl,⟨?_,?_,?_⟩,rfl,Z,Z,λj _=>a0Y J1 I j,⟨kU _,Z⟩⟩,⟨?_,?_,?_⟩,⟨?_,?_,?_⟩⟩
  all_goals first|(rw [hF];exact zC;done)|(rw [hF];simp only[go_sem];rfl)|(unfold cm pl;grind)|(unfold cm;grind)|(unfold pl;omega)
 .rintro j b f1 a x z hj ⟨s,g,H,N,h3,h4,r,h6⟩;intro k T E;have o6:=h6.obj;have o5:=r.obj;have o2:=N.obj;have hlv:=h4.live;have HC:=h4.bt;have l6:=h6.lt;have l2:=N.lt;have d15:pl l 1≠pl l 5:=W;have d45:pl l 4≠pl l 5:=W;have d41:pl l 4≠pl l 1:=W;have e5:pl l 5≠a:=Z;have e1:pl l 1≠a:=Z;simp only[go_sem,kL,o6,IL,o2,h3,HC,d15];refine gE ?_;intro F1 n;have o:Fr (· =4) b f1 a b F1 (pl a 1):=by rw[n];exact(Fr.w (m2:=a) (by repeat (first|exact Fr.refl _ _ _ _|refine Fr.bw ?_ (by first|exact λh=>absurd h J7|exact λ_=>h6.own|exact λ_=>.inl h6.own|exact λ_=>.inr h6.own))) E1)
  refine dv (h4.ah o I) (n':=1) rfl (qS _) Z Z ?_;intro v2 M f2 C A q4;have p:∀x,x<a->b x=4->x≠pl l 5->f2 x=f1 x:=λx hx ho xl=>by have n1:x≠a:=Z;rw[q4.ah x W Z,n];exact zC
  have k5:f2 (pl l 5)=F1 (pl l 5):=q4.ah _ W (by rw[h6.own];decide);rw[n] at k5;simp only[go_sem,e5] at k5;have k1:f2 (pl l 1)=_:=(p _ l2 N.own d15).trans o2;simp only[go_sem,k5,k1,A.one,d15.symm];have ks:∀x,x<a->b x=4->M x=4/\x<C:=λx hx ho=>⟨Vq,U6⟩;refine fG ?_;intro aEZ e;have q5:Fr (· =4) M f2 C M aEZ C:=by rw[e];exact((Fr.refl _ M f2 C).bw (λ_=>(ks _ l2 N.own).1)).bw (λ_=>(ks _ l6 h6.own).1)
  refine E _ _ _ ⟨rfl,M,⟨v2,cy g 0 v2,_,⟨?_,(ks _ l2 N.own).1,(ks _ l2 N.own).2⟩,G,A.ah q5 I,⟨?_,(ks _ r.lt r.own).1,(ks _ r.lt r.own).2⟩,⟨?_,(ks _ l6 h6.own).1,(ks _ l6 h6.own).2⟩⟩,((o.trans q4 (S:=λc=>c=3\/c=4) Z Z).trans q5 Z Z)⟩
  .rw [e,aE d15];exact aK ..
  .rw [e,aE d45,aE d41,p _ r.lt r.own d45];trivial
  .rw [e,IL];exact aK ..
 .rintro v1 f2 C ⟨M,⟨s,g,H,N,h3,h4,r,h6⟩,q4⟩;have o6:=h6.obj;have o5:=r.obj;have o2:=N.obj;have hlv:=h4.live;have HC:=h4.bt;have d15:pl l 1≠pl l 5:=W;have d45:pl l 4≠pl l 5:=W;have hle:=a1A acc os os.length (λ_=>false) fr;have hl2:=λq=>h4.jD Z q;have qq:Fr xp (λ_=>0) f1 l M f2 C:=q3.trans q4 (λ_ h=>h.elim) (λ_ h=>h);have qg:B f m f2 C:=q1.trans (qq.xD (λx _=>by unfold xp;decide));have lm5:l<=pl l 5:=W;have lm4:l<=pl l 4:=W;have fin:∀F',(∀x,x<l->F' x=f2 x)->B f m F' C:=λF' hF'=>⟨qg.le,λx hx=>(hF' x (bW hx q1.le)).trans (qg.ah x hx)⟩;by_cases hs:SS acc os os.length (λ_=>false) fr=os.length
  .have c1:¬((SS acc os os.length (λ_=>false) fr:Nat):Int)<os.length:=by omega
   have es:vY acc os fr=true:=by unfold vY;exact W
   rw[es] at E;refine zS ?_;exact E _ _ _ ⟨⟨s,h4.bC,rfl⟩,fin _ (λx hx=>Vk)⟩
  .have c1:((SS acc os os.length (λ_=>false) fr:Nat):Int)<os.length:=by omega
   have es:vY acc os fr=false:=by unfold vY;exact W
   rw[es] at E;refine zS ?_;exact E _ _ _ ⟨W,fin _ (λx hx=>Vk)⟩
def a2P{R:Rt}(h:i7 f m 149 4 v os.length (fM acc os))(hn:os.length<=64)(P:∀i,i<os.length->qk (ed acc os i)){fr:Int}(h0:0<=fr)(A:fr<=1048576):
  Cl R.Y.Y.Y.Y.Y.Y.Y.Y 510 [Q fr,v] f m (λu y L=>u= .bool (vY acc os fr)/\B f m y L):=by
 intro k c E;refine cUx func510 ?_;simp only[go_sem,bN h.bC, ↓ag 511];apply(WT h hn P h0 A).bu;rintro u r a ⟨⟨w,l,rfl⟩,b⟩;simp only[go_sem,bN l];grind
end
variable{os:aI}
def Fy(a b:Int)(h:0<=a/\0<=b/\a+b<=1048576)(R:Rt)(f)(m:Nat)(k):R.Y.call 507 [Q a,Q b] (.fn f m) k=k (.cI [Q (a+b),.bool true]) (.fn f m):=by have c1:¬a<0:=Z;have c2:¬b<0:=Z;have c3:¬1048576<a:=Z;have u:IntKind.i64.wrap (1048576-a)=1048576-a:=cB Z;have c:IntKind.i64.wrap (a+b)=a+b:=cB Z;have c4:¬1048576-a<b:=Z;refine cUx func507 ?_;exact zC
def xe(acc:Nat->Acc)(os:aI)(i:Nat)(n:Int):Nat->Acc:=kq acc (os.getD i 0) (jj.uj.ap (ed acc os i) n)
def XR{acc:Nat->Acc}(hd:os.Nodup)(F:i<os.length)(x:Acc)(j:Nat)(z:j<os.length*4):
  bI (fM (kq acc (os.getD i 0) x) os) j=if j=i*4+1 then Q x.c else if j=i*4+2 then Q x.h else if j=i*4+3 then Q x.r else bI (fM acc os) j:=by
 obtain⟨p,q,rfl,N⟩:∃p q,j=p*4+q/\q<4:=⟨j/4,j%4,Z,Z⟩;have hp:p<os.length:=Z;rw[lP _ os p hp q N,lP _ os p hp q N];have e:os.getD i 0=os[i]:=by rw[xx,bT F];rfl
 rw[e];by_cases h:p=i
 .subst h;rw[dQ];rcases(Z:q=0\/q=1\/q=2\/q=3) with rfl|rfl|rfl|rfl
  .rw [ao rfl,aj Z,aj Z,aj Z,ao rfl]
  .rw [aj I,ao rfl,ao Z]
  .rw [aj I,aj I,ao rfl,aj Z,ao Z]
  .rw [aj I,aj I,aj I,aj Z,aj Z,ao Z]
 .have a:os[p]≠os[i]:=λe=>h ((AB hd).1 e);rw[gI a,aj (show ¬p*4+q=i*4+1 by omega),aj (show ¬p*4+q=i*4+2 by omega),aj (show ¬p*4+q=i*4+3 by omega)]
section
variable {f:av} {m:Nat} {v:V} {acc:Nat->Acc} {os:aI}
def zH(acc:Nat->Acc)(os:aI)(i n:Int):Bool:=decide (0<=i/\i<os.length/\jj.uj.e (ed acc os i.toNat) n=0)
def SC{R:Rt}(h:i7 f m 149 4 v os.length (fM acc os))(hn:os.length<=64)(hd:os.Nodup)(hS:∀i,i<os.length->qk (ed acc os i))(i n:Int):
  Cl R.Y.Y.Y.Y.Y 508 [v,Q i,Q n] f m (λu y L=>(∃w,w≠ .undef/\u= .cI [w,.bool (zH acc os i n)]/\(zH acc os i n=true->i7 y L 149 4 w os.length (fM (xe acc os i.toNat n) os)))/\B f m y L):=by
 intro k aEY E;have tI:=λq=>h.jD Z q;have yi:=λq=>bN h.bC q;have no:∀y L,zH acc os i n=false->B f m y L->k (.cI [.au,.bool false]) (.fn y L)=aEY:=λy L hb q=>W;by_cases c1:i<0
 .refine cUx func508 ?_;refine zS ?_;exact no _ _ Xu (B.refl _ _)
 by_cases c2:(os.length:Int)<=i
 .refine cUx func508 ?_;refine zS ?_;exact no _ _ Xu (B.refl _ _)
 obtain⟨j,rfl⟩:∃j:Nat,i=j:=⟨i.toNat,Z⟩;have hj:j<os.length:=Z;obtain⟨b,o,cp,a,fz,w,zs,g,ee,hb,hf,nz,k0,k1,s,k3⟩:=xY h hj;subst ee;have c5:o+j*4<a:=Z;have c6:o+j*4+1+3<=a:=Z;have k2':g (o+j*4+1+1)=Q (ed acc os j).h:=s;have k3':g (o+j*4+1+2)=Q (ed acc os j).r:=k3;refine cUx func508 ?_;simp only[go_sem,c1,c2,tI,yi,hj,hf,c6,k1,s,k3, ↓ag 431];apply(yy (ed acc os j) W n _ f m).bu;rintro u f1 l ⟨rfl,P⟩;by_cases he:jj.uj.e (ed acc os j) n=0
 case neg=>rw[aj he];have z0:=DH;unfold Acc.v Acc.cs;simp only[go_sem,eq_false he];exact no _ _ Xu ⟨Y2,λx S=>by have:=P.le;rw[aE Z,aE Z];exact P.ah x S⟩
 rw[ao he,he];obtain⟨x,S⟩:∃x,x=jj.uj.ap (ed acc os j) n:=W;rw[←S];have hbt:zH acc os j n=true:=by unfold zH;exact W
 have d0:(0:Int)<=(os.length:Nat):=Z;have d1:os.length<=4294967296:=Z;have d2:32*os.length<=281474976710656:=Z;have d5:os.length<=9223372036854775807:=Z;unfold Acc.v Acc.cs;simp only[go_sem,tI,yi,d1,d2];refine Ii ?_;intro F hF;have M:B f1 l F (pl l 2):=Wi;have a0:F l=(.row 147 3 0 true [.num 0,.num 0,.num 0] (.cf (laid 0 [Q x.c,Q x.h,Q x.r] (zf [.num 0,.num 0,.num 0])))):=O7;have a1:F (pl l 1)=(.row 149 (os.length*4) 0 true [.num 0,.num 0,.num 0,.num 0] (.cf (zf [.num 0,.num 0,.num 0,.num 0]))):=O2;have h1:=h.gr (P.trans M);refine Ij a1 h1 Z Z ?_;intro u;have L0:∀z,laid 0 [Q x.c,Q x.h,Q x.r] z 0=Q x.c:=λz=>rfl;have L1:∀z,laid 0 [Q x.c,Q x.h,Q x.r] z 1=Q x.h:=λz=>rfl;have L2:∀z,laid 0 [Q x.c,Q x.h,Q x.r] z 2=Q x.r:=λz=>rfl;have d:l≠pl l 1:=W;have c7:j*4+1+3<=os.length*4:=Z;simp only[go_sem,a0,d,hj,c7];refine fG ?_;intro H hG;have qG:B f m H (pl l 2):=by rw[hG];exact((P.trans M).bw Y2).bw Y2
 refine E _ _ _ ⟨⟨.sl (pl l 1) 0 os.length (.known os.length),λh=>Q8,W,λ_=>?_⟩,qG⟩;have hml:=h.cells;refine .inr ⟨pl l 1,0,.known os.length,os.length*4,0,true,_,_,rfl,W,X8,?_,Z,λt ht=>?_,λw hw=>?_⟩
 .unfold xe;rw[nK]
 .rw [dz,iI];unfold xe;rw[←S,XR hd hj x t ht];by_cases e1:t=j*4+1
  .subst e1;rw[ao rfl,du Z J1,mH];rfl
  .rw [aj e1];by_cases e2:t=j*4+2
   .subst e2;rw[ao rfl,du Z J1,show j*4+2-(j*4+1)=1 by omega];rfl
   .rw [aj e2];by_cases A:t=j*4+3
    .subst A;rw[ao rfl,du Z J1,show j*4+3-(j*4+1)=2 by omega];rfl
    .rw [aj A,dL W,du Z Z,j7]
 .obtain ⟨t,ht,rfl⟩:=jm hw;rw[←dH ht];unfold xe at ht ⊢;rw[nK] at ht;obtain⟨p,q,rfl,N⟩:∃p q,t=p*4+q/\q<4:=⟨t/4,t%4,Z,Z⟩;rw[lP _ os p Z q N];exact iW _
def Hl(acc:Nat->Acc)(os:aI)(fr e i n:Int):Bool:=decide (n<=fr)&&(zH acc os i n&&vY (xe acc os i.toNat n) os (fr-n+e))
def a5K{i n:Int}(P:∀i,i<os.length->qk (ed acc os i))(hd:os.Nodup)(s:zH acc os i n=true):∀j,j<os.length->qk (ed (xe acc os i.toNat n) os j):=by
 intro j z;have A:=pn s;have x:qk (jj.uj.ap (ed acc os i.toNat) n):=by
  have N:=A.2.2;unfold jj.e at N;split at N
  .omega
  .split at N
   .rename_i M;exact M.2.2
   .exact absurd N I
 unfold xe ed;unfold kq;split
 .trivial
 .exact P j z
def a0k{R:Rt}(h:i7 f m 149 4 v os.length (fM acc os))(hn:os.length<=64)(P:∀i,i<os.length->qk (ed acc os i))(a b:Int)(e:0<=a/\0<=b/\a+b<=1048576):
  Cl R.Y.Y.Y.Y.Y.Y.Y.Y.Y 509 [Q a,Q b,v] f m (λu y L=>u= .bool (vY acc os (a+b))/\B f m y L):=by
 intro k c E;have q:=Fy a b e;refine cUx func509 ?_;simp only[go_sem,q,bN h.bC, ↓ag 510];apply(a2P h hn P Z Z).bu;rintro u r l ⟨rfl,d⟩;simp only[go_sem];grind
def a5E{R:Rt}(h:i7 f m 149 4 v os.length (fM acc os))(hn:os.length<=64)(hd:os.Nodup)(P:∀i,i<os.length->qk (ed acc os i))(fr e i n:Int)(a:0<=fr/\0<=e/\fr+e<=1048576)(p:1<=n):
  Cl R.Y.Y.Y.Y.Y.Y.Y.Y.Y.Y 503 [Q fr,Q e,v,Q i,Q n] f m (λu y L=>u= .bool (Hl acc os fr e i n)/\B f m y L):=by
 intro k c E;have q:=Fy fr e a;by_cases c1:fr<n
 .refine cUx func503 ?_;refine zS ?_;exact E _ _ _ ⟨by unfold Hl;grind,B.refl _ _⟩
 have j:Hl acc os fr e i n=(zH acc os i n&&vY (xe acc os i.toNat n) os (fr-n+e)):=by unfold Hl;rw[dI Z];rfl
 rw[j] at E;refine cUx func503 ?_;simp only[go_sem,q,c1,bN h.bC, ↓ag 508];apply(SC h hn hd P i n).bu;rintro u r t ⟨⟨w,l,rfl,g⟩,b⟩;cases s:zH acc os i n with
 |false=>rw[s] at E;simp only[go_sem,bN l];grind
 |true=>rw[s] at E;have N:IntKind.i64.wrap (fr-n)=fr-n:=cB Z;simp only[go_sem,bN l,N, ↓ag 509];apply(a0k W hn (a5K P hd s) (fr-n) e Z).bu;rintro u d C ⟨rfl,o⟩;refine zS ?_;exact E _ _ _ ⟨rfl,b.trans o⟩
end
section
variable {own:aG} {f:av} {m aF1:Nat} {ts:List Tk} {a:uv}
@[grind] def PB(x:Nat):Prop:=x=35\/x=36
def vQ(ts:List Tk):(gz ts).length=ts.length*5:=sH Tk.Ih ts
def a1y(t:Tk):∀u∈t.cs,u≠ .undef:=by intro u L;unfold Tk.cs at L;simp at L;rcases L with rfl|rfl|rfl|rfl|rfl<;>exact iW _
def TB{ts:List Tk}{a:Tk}(z:j<ts.length)(x:Int):Nv (ts.set j a) x=if((j+1:Nat):Int)=x then decide (a.s=1) else Nv ts x:=by
 by_cases e:((j+1:Nat):Int)=x
 .rw [ao e,←e,GI W];simp
 .rw [aj e];unfold Nv;grind
def a1Y{ts:List Tk}(hid:∀j (h:j<ts.length),ts[j].i=j+1){a:Tk}(F:a.i=j+1):∀q (h:q<(ts.set j a).length),(ts.set j a)[q].i=q+1:=by grind
def zR{P:Tk->Prop}{ts:List Tk}(h:∀t∈ts,P t){a:Tk}(h':P a):∀t∈ts.set j a,P t:=λt o=>by grind
def It{R:Rt}(H:ft own f m aF1 ts a)(j:Nat)(z:j<ts.length)(t':Tk)(hi:t'.i=j+1)(hr:TkR t')(QO:t'.p<=1073741824)(fd:Nat)(hfd:eW K fd=iM fd)
  (hd:∀(R:Rt) f m,Cl R.Y.Y.Y.Y.Y fd [.agg [Q ts[j].i,Q ts[j].c,Q ts[j].n,Q ts[j].s,Q ts[j].p]] f m (λv y L=>v=(if ts[j].s=1 then .cI [.agg [Q t'.i,Q t'.c,Q t'.n,Q t'.s,Q t'.p],Q 0] else .cI [.agg [Q 0,Q 0,Q 0,Q 0,Q 0],Q 13])/\B f m y L)):
  Cl R.Y.Y.Y.Y.Y.Y 291 [.ptr aF1 0,Q (j+1:Nat),.agg [.fn fd [] []]] f m (λv y L=>if ts[j].s=1 then v=Q 0/\(∃a',ft own y L aF1 (ts.set j t') a')/\Fr PB own f m own y L else v=Q 13/\B f m y L):=by
 intro k T E;refine cUx func291 ?_;simp only[go_sem, ↓ag 214];have q0:B f m _ (pl m 1):=(B.refl f m).new (o:=(.row 484 1 0 true [.fN] (.cf (bI [.fn fd [] []]))));apply(x9 (H.gr q0) (j+1:Nat)).bu;rintro v f1 m1 ⟨rfl,q1⟩;have e0:((j+1:Nat):Int).toNat-1=j:=Z;rw[ao Z,e0,bT z];have Ei:=q0.trans q1;have b1:f1 m=(.row 484 1 0 true [.fN] (.cf (bI [.fn fd [] []]))):=by rw[q1.ah m W];exact aK ..
 have n1:m≠m1:=U5;simp only[go_sem,DH,b1,n1,hfd, ↓ag fd];refine aP ?_;intro F hF;have q2:B f m F (pl m1 1):=by rw[hF];exact(B.w (m2:=m1) (by repeat (first|exact Ei|refine B.bw ?_ V5)) V5)
 apply(hd _ _ _).bu;rintro v d m2 ⟨rfl,q3⟩;have q4:=q2.trans q3;have n2:d m1= .row 49 5 0 true [Q 0,Q 0,Q 0,Q 0,Q 0] (.cf (laid 0 [Q ts[j].i,Q ts[j].c,Q ts[j].n,Q ts[j].s,Q ts[j].p] (zf [Q 0,Q 0,Q 0,Q 0,Q 0]))):=by rw[q3.ah m1 W,hF];exact aK ..
 have hmm:m<=m1:=Ei.le;by_cases c:ts[j].s=1
 case neg=>simp only[aj c] at E ⊢;refine zS ?_;exact E _ _ _ ⟨rfl,(B.w (m2:=m2) (by repeat (first|exact q4|refine B.bw ?_ (by first|exact bP _|(unfold pl;omega)|(have:=(q4).le;unfold pl at *;omega)))) Z)⟩
 simp only[ao c] at E ⊢;have hB:=(H.gr q4).aB.obj;have hm:=(H.gr q4).am.obj;have u:aF1≠m1:=by have:=(H.gr Ei).aB.lt;omega
 have b:a.mp≠m1:=by have:=(H.gr Ei).am.lt;omega
 have ln:=H.ln;have n9:ts.length<=9223372036854775807:=Z;have ew:IntKind.i64.wrap (((j+1:Nat):Int)-1)=(j:Nat):=Ql;rcases(H.gr q4).bv with⟨_,e,_⟩|⟨i,o,cp,mm,w,zs,g,t,N,h3,h4,h5,h6,h7⟩
 .omega
 have hf:=N.obj;have nz:o+j*5<mm:=Z;have LJ:o+j*5+5<=mm:=Z;have A:i≠m1:=by have:=(H.gr Ei).bv;rcases this with⟨e,_⟩|⟨i',_,_,_,_,_,_,e',hA',_⟩;(rw [e] at t;cases t);(rw [e'] at t;cases t;have:=hA'.lt;omega)
 rw[t] at hB;have e4:a.mp≠i:=λe=>W;have r:aF1≠i:=λe=>W;have S:bS own 36 (bw (bw d m1 (.row 49 5 0 true [Q 0,Q 0,Q 0,Q 0,Q 0] (.cf (laid 0 [Q t'.i,Q t'.c,Q t'.n,Q t'.s,Q t'.p] (laid 0 [Q ts[j].i,Q ts[j].c,Q ts[j].n,Q ts[j].s,Q ts[j].p] (zf [Q 0,Q 0,Q 0,Q 0,Q 0])))))) i (.row 49 mm 0 w zs (.cf (laid (o+j*5) t'.cs g)))) m2 49 5 (.sl i o ts.length cp) ts.length (gz (ts.set j t')):=by refine bS.put (cs:=gz ts) ⟨by rw[aE A];trivial,N.own,N.lt⟩ h3 h4 h5 h6 h7 z rfl (a1y t') ?_ (λq hq=>a4I Tk.Ih ts j z t' q hq);rw[vQ,uG]
 by_cases c2:t'.s=1
 .have c3:(t'.s:Int)=1:=by omega
  have c4:=eq_true c3;simp only[go_sem,n2,hB,u,A,A.symm,ew,z,hf,LJ,c4];refine fG ?_;intro F3 tW;have M:Fr (· =36) own f m own F3 m2:=by rw[tW];exact(Fr.w (m2:=m2) (by repeat (first|exact(q4.fr own (· =36))|refine Fr.bw ?_ V9)) Z)
  have S:bS own 36 F3 m2 49 5 (.sl i o ts.length cp) ts.length (gz (ts.set j t')):=by rw[tW];exact S
  refine E _ _ _ ⟨rfl,⟨⟨.sl i o ts.length cp,a.mp,a.l,a.ck⟩,⟨?_,?_,H.am.ah M I,H.wf,λx=>?_,a1Y H.id hi,zR H.ok hr,zR H.ps QO,W⟩⟩,M.mono (λ_ h=>.inr h)⟩
  .have:=H.aB.ah M I;grind
  .grind
  .rw [H.mo,TB z];by_cases e:((j+1:Nat):Int)=x
   .rw [ao e,←e,GI z,c,c2]
   grind
 .have c3:¬((t'.s:Int)=1):=by omega
  simp only[go_sem,n2,hB,hm,u,b,A,A.symm,e4,r,ew,z,hf,LJ,c3];refine fG ?_;intro F3 tW;have C:=H.am.gr q4;have M:Fr PB own f m own F3 m2:=by rw[tW];exact(Fr.w (m2:=m2) (by repeat (first|exact(q4.fr own PB)|refine Fr.bw ?_ (by first|exact λh=>absurd h (by first|exact uz _|(unfold pl at *;omega)|(have:=((q4.fr own PB)).le;unfold pl at *;omega))|exact λ_=>N.own|exact λ_=>.inl N.own|exact λ_=>.inr N.own|exact λ_=>C.own|exact λ_=>.inl C.own|exact λ_=>.inr C.own))) Z)
  have S:bS own 36 F3 m2 49 5 (.sl i o ts.length cp) ts.length (gz (ts.set j t')):=by rw[tW];exact S.ah (P:=(· =35)) ((Fr.refl _ own _ m2).bw (λ_=>C.own)) I
  refine E _ _ _ ⟨rfl,⟨⟨.sl i o ts.length cp,a.mp,iO a.l (j+1:Nat),a.ck⟩,⟨⟨?_,H.aB.own,(H.gr q4).aB.lt⟩,?_,⟨G2,C.own,C.lt⟩,H.wf.del _,λx=>?_,a1Y H.id hi,zR H.ok hr,zR H.ps QO,W⟩⟩,M⟩
  .rw [tW,aE W,aE r,aE u];trivial
  .grind
  .rw [jH H.wf.keys,H.mo,TB z];grind
end
end
end Go.Ev.Sy
