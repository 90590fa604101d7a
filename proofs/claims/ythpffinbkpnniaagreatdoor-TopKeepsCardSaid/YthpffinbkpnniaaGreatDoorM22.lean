import Derived.Test.YthpffinbkpnniaaGreatDoorM21
set_option linter.all false
set_option maxRecDepth 100000
namespace Go.Ev.Sy
open Go Go.Ev Go.Proofs
open Tryz
noncomputable section
variable{l:Nat}{own:aG}
structure kR(f1:av)(m1:Nat)(f':av)(m' y:Nat):Prop where
 le:m1<=m'
 eq:∀x,x<m1->x≠y->f' x=f1 x
def kR.fr{r:av}{a:av}{L y:Nat}(h:kR r l a L y)(p:own y=0):Fr (· =0) own r l own a L:=⟨h.le,Z,λx S g=>h.eq x S W,λs x S=>s x (cL h.le S)⟩
def lY(k a b c:Int)(t:aI):V:=.agg [Q k,Q a,Q b,Q c,.str t]
section
variable {own:aG} {f:av} {m M aEY N d Kp:Nat} {u:Su} {s:Ms} {a:mS}
def Hh{R:Rt}(H:eA own f m M u s aEY N d Kp a)(k A aF1 C:Int)(t)(aEV:V->av->dF)
  (hc:∀F,B f m F (pl m 2)->Cl R.Y.Y 131 [.ptr a.X 0,Q A] F (pl m 2) (λv y L=>aEV v y L/\(∃n e:Int,v= .cI [Q n,Q e])/\∃bo P,Fr P own F (pl m 2) bo y L/\¬P 0/\¬P 9)):
  Cl R.Y.Y.Y 79 [.ptr M 0,lY k A aF1 C t] f m (λv y L=>∃(n e:Int) (r:av) (l:Nat),aEV (.cI [Q n,Q e]) r l/\v=(if e=0 then rep 0 n .au [] else rep e 0 .au [])/\kR r l y L (pl m 1)):=by
 intro p T E;unfold lY;have hM:=H.aM.obj;have i:M≠m:=O3;have n1:M≠pl m 1:=J8;have nm:m≠pl m 1:=W;refine cUx func79 ?_;simp only[go_sem,hM,i,n1,nm, ↓ag 131];refine aP ?_;intro F j;have q0:B f m F (pl m 2):=Vu;have h:F m=(.row 60 5 0 true [.num 0,.num 0,.num 0,.num 0,.str []] (.cf (bI [Q k,Q A,Q aF1,Q C,.str t]))):=Q0;have a1:F (pl m 1)=(.row 54 4 0 true [.num 0,.num 0,.au,.str []] (.cf (zf [.num 0,.num 0,.au,.str []]))):=J3;apply(hc F q0).bu;rintro v r l ⟨hq,⟨n,e,rfl⟩,bo,P,q1,p0,p9⟩;have om:own m=0:=H.b.z m Z;have xR:own (pl m 1)=0:=H.b.z _ W;have c:=q1.le;unfold pl at c;have b0:=(q1.ah m W W).trans h;have b1:=(q1.ah (pl m 1) W W).trans a1;have bM:=((H.gr q0).aM.ah q1 p9).obj;simp only[go_sem, ↓ag 130];apply(jx n e _ r l).bu;rintro v f2 m2 ⟨rfl,o⟩;have q:=(o.ah m Z).trans b0;have c1:=(o.ah (pl m 1) G).trans b1;have cM:=(o.ah M O3).trans bM;by_cases he:e=0
 .rw [ao he];unfold rep at E ⊢;refine zS ?_;exact E _ _ _ ⟨n,e,r,l,hq,W,⟨o.le,λx S g=>T5⟩⟩
 .rw [aj he];unfold rep at E ⊢;refine zS ?_;exact E _ _ _ ⟨n,e,r,l,hq,W,⟨o.le,λx S g=>T5⟩⟩
def a7W{R:Rt}(H:eA own f m M u s aEY N d Kp a)(k A aF1 C:Int)(t)(aEV:V->av->dF)
  (hc:∀F,B f m F (pl m 2)->Cl R.Y.Y 136 [.ptr a.X 0,Q A,Q aF1] F (pl m 2) (λv y L=>aEV v y L/\(∃n e:Int,v= .cI [Q n,Q e])/\∃bo P,Fr P own F (pl m 2) bo y L/\¬P 0/\¬P 9)):
  Cl R.Y.Y.Y 81 [.ptr M 0,lY k A aF1 C t] f m (λv y L=>∃(n e:Int) (r:av) (l:Nat),aEV (.cI [Q n,Q e]) r l/\v=(if e=0 then rep 0 n .au [] else rep e 0 .au [])/\kR r l y L (pl m 1)):=by
 intro p T E;unfold lY;have hM:=H.aM.obj;have i:M≠m:=O3;have n1:M≠pl m 1:=J8;have nm:m≠pl m 1:=W;refine cUx func81 ?_;simp only[go_sem,hM,i,n1,nm, ↓ag 136];refine aP ?_;intro F j;have q0:B f m F (pl m 2):=Vu;have h:F m=(.row 60 5 0 true [.num 0,.num 0,.num 0,.num 0,.str []] (.cf (bI [Q k,Q A,Q aF1,Q C,.str t]))):=Q0;have a1:F (pl m 1)=(.row 54 4 0 true [.num 0,.num 0,.au,.str []] (.cf (zf [.num 0,.num 0,.au,.str []]))):=J3;apply(hc F q0).bu;rintro v r l ⟨hq,⟨n,e,rfl⟩,bo,P,q1,p0,p9⟩;have om:own m=0:=H.b.z m Z;have xR:own (pl m 1)=0:=H.b.z _ W;have c:=q1.le;unfold pl at c;have b0:=(q1.ah m W W).trans h;have b1:=(q1.ah (pl m 1) W W).trans a1;have bM:=((H.gr q0).aM.ah q1 p9).obj;simp only[go_sem, ↓ag 130];apply(jx n e _ r l).bu;rintro v f2 m2 ⟨rfl,o⟩;have q:=(o.ah m Z).trans b0;have c1:=(o.ah (pl m 1) G).trans b1;have cM:=(o.ah M O3).trans bM;by_cases he:e=0
 .rw [ao he];unfold rep at E ⊢;refine zS ?_;exact E _ _ _ ⟨n,e,r,l,hq,W,⟨o.le,λx S g=>T5⟩⟩
 .rw [aj he];unfold rep at E ⊢;refine zS ?_;exact E _ _ _ ⟨n,e,r,l,hq,W,⟨o.le,λx S g=>T5⟩⟩
def a3j{R:Rt}(H:eA own f m M u s aEY N d Kp a)(k A aF1 C:Int)(t)(aEV:V->av->dF)
  (hc:∀F,B f m F (pl m 2)->Cl R.Y.Y 155 [.ptr a.X 0,Q A] F (pl m 2) (λv y L=>aEV v y L/\(∃n e:Int,v= .cI [Q n,Q e])/\∃bo P,Fr P own F (pl m 2) bo y L/\¬P 0/\¬P 9)):
  Cl R.Y.Y.Y 92 [.ptr M 0,lY k A aF1 C t] f m (λv y L=>∃(n e:Int) (r:av) (l:Nat),aEV (.cI [Q n,Q e]) r l/\v=(if e=0 then rep 0 n .au [] else rep e 0 .au [])/\kR r l y L (pl m 1)):=by
 intro p T E;unfold lY;have hM:=H.aM.obj;have i:M≠m:=O3;have n1:M≠pl m 1:=J8;have nm:m≠pl m 1:=W;refine cUx func92 ?_;simp only[go_sem,hM,i,n1,nm, ↓ag 155];refine aP ?_;intro F j;have q0:B f m F (pl m 2):=Vu;have h:F m=(.row 60 5 0 true [.num 0,.num 0,.num 0,.num 0,.str []] (.cf (bI [Q k,Q A,Q aF1,Q C,.str t]))):=Q0;have a1:F (pl m 1)=(.row 54 4 0 true [.num 0,.num 0,.au,.str []] (.cf (zf [.num 0,.num 0,.au,.str []]))):=J3;apply(hc F q0).bu;rintro v r l ⟨hq,⟨n,e,rfl⟩,bo,P,q1,p0,p9⟩;have om:own m=0:=H.b.z m Z;have xR:own (pl m 1)=0:=H.b.z _ W;have c:=q1.le;unfold pl at c;have b0:=(q1.ah m W W).trans h;have b1:=(q1.ah (pl m 1) W W).trans a1;have bM:=((H.gr q0).aM.ah q1 p9).obj;simp only[go_sem, ↓ag 130];apply(jx n e _ r l).bu;rintro v f2 m2 ⟨rfl,o⟩;have q:=(o.ah m Z).trans b0;have c1:=(o.ah (pl m 1) G).trans b1;have cM:=(o.ah M O3).trans bM;by_cases he:e=0
 .rw [ao he];unfold rep at E ⊢;refine zS ?_;exact E _ _ _ ⟨n,e,r,l,hq,W,⟨o.le,λx S g=>T5⟩⟩
 .rw [aj he];unfold rep at E ⊢;refine zS ?_;exact E _ _ _ ⟨n,e,r,l,hq,W,⟨o.le,λx S g=>T5⟩⟩
def PI{R:Rt}(H:eA own f m M u s aEY N d Kp a)(k A aF1 C:Int)(t)(aEV:V->av->dF)
  (hc:∀F,B f m F (pl m 2)->Cl R.Y.Y 137 [.ptr a.X 0,Q A,Q aF1] F (pl m 2) (λv y L=>aEV v y L/\(∃e:Int,v=Q e)/\∃bo P,Fr P own F (pl m 2) bo y L/\¬P 0/\¬P 9)):
  Cl R.Y.Y.Y 82 [.ptr M 0,lY k A aF1 C t] f m (λv y L=>∃(e:Int) (r:av) (l:Nat),aEV (Q e) r l/\v=rep e 0 .au []/\kR r l y L (pl m 1)):=by
 intro p T E;unfold lY;have hM:=H.aM.obj;have i:M≠m:=O3;have n1:M≠pl m 1:=J8;have nm:m≠pl m 1:=W;refine cUx func82 ?_;simp only[go_sem,hM,i,n1,nm, ↓ag 137];refine aP ?_;intro F j;have q0:B f m F (pl m 2):=Vu;have h:F m=(.row 60 5 0 true [.num 0,.num 0,.num 0,.num 0,.str []] (.cf (bI [Q k,Q A,Q aF1,Q C,.str t]))):=Q0;have a1:F (pl m 1)=(.row 54 4 0 true [.num 0,.num 0,.au,.str []] (.cf (zf [.num 0,.num 0,.au,.str []]))):=J3;apply(hc F q0).bu;rintro v r l ⟨hq,⟨e,rfl⟩,bo,P,q1,p0,p9⟩;have n:own m=0:=H.b.z m Z;have xR:own (pl m 1)=0:=H.b.z _ W;have c:=q1.le;unfold pl at c;have b0:=(q1.ah m W W).trans h;have b1:=(q1.ah (pl m 1) W W).trans a1;have bM:=((H.gr q0).aM.ah q1 p9).obj;simp only[go_sem, ↓ag 52];apply(eF e _ r l).bu;rintro v f2 m2 ⟨rfl,o⟩;have q:=(o.ah m Z).trans b0;have c1:=(o.ah (pl m 1) G).trans b1;have cM:=(o.ah M O3).trans bM;unfold rep at E ⊢;refine zS ?_;exact E _ _ _ ⟨e,r,l,hq,rfl,⟨o.le,λx S g=>T5⟩⟩
def a3n{R:Rt}(H:eA own f m M u s aEY N d Kp a)(k A aF1 C:Int)(t)(aEV:V->av->dF)
  (hc:∀F,B f m F (pl m 2)->Cl R.Y.Y 149 [.ptr a.X 0,Q A,Q aF1] F (pl m 2) (λv y L=>aEV v y L/\(∃e:Int,v=Q e)/\∃bo P,Fr P own F (pl m 2) bo y L/\¬P 0/\¬P 9)):
  Cl R.Y.Y.Y 87 [.ptr M 0,lY k A aF1 C t] f m (λv y L=>∃(e:Int) (r:av) (l:Nat),aEV (Q e) r l/\v=rep e 0 .au []/\kR r l y L (pl m 1)):=by
 intro p T E;unfold lY;have hM:=H.aM.obj;have i:M≠m:=O3;have n1:M≠pl m 1:=J8;have nm:m≠pl m 1:=W;refine cUx func87 ?_;simp only[go_sem,hM,i,n1,nm, ↓ag 149];refine aP ?_;intro F j;have q0:B f m F (pl m 2):=Vu;have h:F m=(.row 60 5 0 true [.num 0,.num 0,.num 0,.num 0,.str []] (.cf (bI [Q k,Q A,Q aF1,Q C,.str t]))):=Q0;have a1:F (pl m 1)=(.row 54 4 0 true [.num 0,.num 0,.au,.str []] (.cf (zf [.num 0,.num 0,.au,.str []]))):=J3;apply(hc F q0).bu;rintro v r l ⟨hq,⟨e,rfl⟩,bo,P,q1,p0,p9⟩;have n:own m=0:=H.b.z m Z;have xR:own (pl m 1)=0:=H.b.z _ W;have c:=q1.le;unfold pl at c;have b0:=(q1.ah m W W).trans h;have b1:=(q1.ah (pl m 1) W W).trans a1;have bM:=((H.gr q0).aM.ah q1 p9).obj;simp only[go_sem, ↓ag 52];apply(eF e _ r l).bu;rintro v f2 m2 ⟨rfl,o⟩;have q:=(o.ah m Z).trans b0;have c1:=(o.ah (pl m 1) G).trans b1;have cM:=(o.ah M O3).trans bM;unfold rep at E ⊢;refine zS ?_;exact E _ _ _ ⟨e,r,l,hq,rfl,⟨o.le,λx S g=>T5⟩⟩
end
section
variable {own:aG} {f:av} {m M aEY N d Kp:Nat} {u:Su} {s:Ms} {a:mS}
def a3k{R:Rt}(H:eA own f m M u s aEY N d Kp a)(k A aF1 C:Int)(t)(aEV:V->av->dF)
  (hc:∀F,B f m F (pl m 2)->Cl R 153 [.ptr a.X 0] F (pl m 2) (λv y L=>aEV v y L/\(∃w,∃n:Int,v= .cI [w,Q n,Q 0]/\(w= .au\/∃b o c cp,w= .sl b o c cp))/\∃bo P,Fr P own F (pl m 2) bo y L/\¬P 0/\¬P 9)):
  Cl R.Y 90 [.ptr M 0,lY k A aF1 C t] f m (λv y L=>∃(w:V) (n:Int) (r:av) (l:Nat),aEV (.cI [w,Q n,Q 0]) r l/\v=rep 0 n w []/\kR r l y L (pl m 1)):=by
 intro p S E;unfold lY;have h:=H.aM.obj;have i:M≠m:=O3;have n1:M≠pl m 1:=J8;have nm:m≠pl m 1:=W;refine cUx func90 ?_;simp only[go_sem,h,i,n1, ↓ag 153];refine aP ?_;intro F j;have q0:B f m F (pl m 2):=Vu;have a1:F (pl m 1)=(.row 54 4 0 true [.num 0,.num 0,.au,.str []] (.cf (zf [.num 0,.num 0,.au,.str []]))):=J3;apply(hc F q0).bu;rintro v r l ⟨hq,⟨w,n,rfl,hw⟩,bo,P,q1,p0,p9⟩;have e:own (pl m 1)=0:=H.b.z _ W;have b1:=(q1.ah (pl m 1) W W).trans a1;have w1:∀q,V.live w q=q w:=λq=>J9;have w2:∀q d,V.bt w q d=q w:=λq d=>J9;have w3:∀q,V.one w q=q w:=λq=>J9;refine zS ?_;exact E _ _ _ ⟨w,n,r,l,hq,rfl,⟨Z,λx hx g=>aE g ..⟩⟩
def XK{R:Rt}(H:eA own f m M u s aEY N d Kp a)(k A aF1 C:Int)(t)(hA:A<=9223372036854775807):
  Cl R.Y.Y.Y.Y.Y 91 [.ptr M 0,lY k A aF1 C t] f m (λv y m'=>(∃e:Int,v=rep e 0 .au []\/∃w,v=rep 0 0 w []/\(w= .au\/∃b o c cp,w= .sl b o c cp))/\B f m y m'):=by
 intro kk T E;unfold lY;have hM:=H.aM.obj;have hX:=H.b.aX.obj;have n0:M≠m:=O3;have n1:M≠pl m 1:=J8;have x0:a.X≠m:=by have:=H.b.aX.lt;omega
 have x1:a.X≠pl m 1:=by have:=H.b.aX.lt;unfold pl;omega
 have nm:m≠pl m 1:=W;refine cUx func91 ?_;simp only[go_sem,hM,hX,n0,n1,x0,x1,nm, ↓ag 133];refine aP ?_;intro F j;have q0:B f m F (pl m 2):=Vu;have S:=H.gr q0;have h:F m=(.row 60 5 0 true [.num 0,.num 0,.num 0,.num 0,.str []] (.cf (bI [Q k,Q A,Q aF1,Q C,.str t]))):=Q0;have a1:F (pl m 1)=(.row 54 4 0 true [.num 0,.num 0,.au,.str []] (.cf (zf [.num 0,.num 0,.au,.str []]))):=J3;apply(qZ S.b.ue A hA).bu;rintro v r l ⟨rfl,P⟩;have H1:=S.gr P;have wF:=H1.aM.obj;have QZ:=H1.b.aX.obj;have b0:=(P.ah m W).trans h;have b1:=(P.ah (pl m 1) W).trans a1;have l1:=P.le;unfold pl at l1;have fin:∀(e:Int) F' M',B f m F' M'->kk (rep e 0 .au []) (.fn F' M')=T:=λe F' M' q=>W;by_cases c:gU s.b.gen s.b.op A
 case neg=>rw[aj c];have ce:=rB c;simp only[go_sem,ce, ↓ag 52];apply(eF _ _ r l).bu;rintro v f2 m2 ⟨rfl,q2⟩;have c0:=(q2.ah m Z).trans b0;have c1:=(q2.ah (pl m 1) G).trans b1;unfold rep at fin ⊢;refine zS ?_;exact fin _ _ _ (((q0.trans P).trans q2).bw W)
 rw[ao c];have y0:M≠l:=by have:=H1.aM.lt;omega
 have y1:m≠l:=Z;have y2:pl m 1≠l:=W;simp only[go_sem,wF,b0,y0,y1, ↓ag 154];refine aP ?_;intro F2 g;have Eh:B r l F2 (pl l 1):=by rw[g];exact(B.w (m2:=l) Qc E1)
 have at0:F2 l=(.row 49 5 0 true [.num 0,.num 0,.num 0,.num 0,.num 0] (.cf (zf [.num 0,.num 0,.num 0,.num 0,.num 0]))):=by rw[g];exact aK ..
 apply(Sn (H1.gr Eh).b aF1).bu;rintro v f2 m2 ⟨⟨i,L,n,st,p,e,rfl⟩,q2'⟩;have q2:=Eh.trans q2';have H2:=H1.gr q2;have hM2:=H2.aM.obj;have c0:=(q2.ah m Z).trans b0;have c1:=(q2.ah (pl m 1) G).trans b1;have at2:=(q2'.ah l W).trans at0;have l2:=q2'.le;unfold pl at l2;have M1:∀a b c d e z,laid 0 [a,b,c,d,e] z 1=b:=λ_ _ _ _ _ _=>rfl;have M2:∀a b c d e z,laid 0 [a,b,c,d,e] z 2=c:=λ_ _ _ _ _ _=>rfl;have M3:∀a b c d e z,laid 0 [a,b,c,d,e] z 3=d:=λ_ _ _ _ _ _=>rfl;have M4:∀a b c d e z,laid 0 [a,b,c,d,e] z 4=e:=λ_ _ _ _ _ _=>rfl;have qq:B f m f2 m2:=(q0.trans P).trans q2;refine(kf (e=0/\L=(hP A:Nat))).elim (λhh=>?B1) (λhh=>?B2)
 case' B1=>refine zS ?_
 case' B2=>
  refine(kf (e=0)).elim (λh3=>?B3) (λh3=>?B4)
  case' B3=>have h4:¬L=(hP A:Nat):=Z;simp only[go_sem,at2,h3,h4, ↓ag 52]
  case' B4=>simp only[go_sem,at2,h3, ↓ag 52]
 case B1=>
  have x2:pl m 1≠m2:=W;refine zS ?_;refine fG ?_;intro aEZ hG;refine E _ _ _ ⟨⟨0,.inr ⟨.sl m2 0 3 (.known 3),rfl,W⟩⟩,⟨by have:=qq.le;unfold pl;omega,λx hx=>?_⟩⟩;have:=qq.le;rw[hG]
  repeat (first|rw[aE Z]|rw[aE W])
  exact qq.ah x hx
 all_goals
  refine aP ?_;intro F3 tW;have qF3:B f m F3 m2:=by rw[tW];exact qq.bw Z
  have e1:F3 (pl m 1)=f2 (pl m 1):=by rw[tW,aE y2]
  apply(eF _ _ F3 m2).bu;rintro v f3 m3 ⟨rfl,q3⟩;have d1:=((q3.ah (pl m 1) W).trans e1).trans c1;unfold rep at fin ⊢;refine zS ?_;exact fin _ _ _ ((qF3.trans q3).bw W)
end
variable{S:Nat}
structure tZ(own:aG)(f:av)(m:Nat)(k A aF1 C:Int)(t:aI)(F:av)(M':Nat):Prop where
 gr:B f m F M'
 l:m+2<=M'
 a0:F m=(.row 60 5 0 true [.num 0,.num 0,.num 0,.num 0,.str []] (.cf (bI [Q k,Q A,Q aF1,Q C,.str t])))
 a1:F (pl m 1)=(.row 54 4 0 true [.num 0,.num 0,.au,.str []] (.cf (zf [.num 0,.num 0,.au,.str []])))
section
variable {own:aG} {f:av} {m M aEY N d Kp:Nat} {u:Su} {s:Ms} {a:mS} {k A aF1 C:Int} {t:aI} {F:av} {M':Nat}
def tZ.step{i:av}(h:tZ own f m k A aF1 C t F M')(q:B F M' i S):tZ own f m k A aF1 C t i S:=
 ⟨h.gr.trans q,cL h.l q.le,(q.ah m Jn).trans h.a0,(q.ah (pl m 1) D9).trans h.a1⟩
def a3l{R:Rt}(H:eA own f m M u s aEY N d Kp a)(hA:A<=9223372036854775807)(hcn:s.tc<4096)(hg:∀p,s.tg p<=1048575):
  Cl R.Y.Y.Y.Y.Y.Y.Y.Y 83 [.ptr M 0,lY k A aF1 C t] f m (λv y L=>(∃e:Int,e≠0/\v=rep e 0 .au []/\B f m y L)\/∃p bo r m1,v=rep 0 (kN 2 p (s.tg p) 0:Nat) .au []/\p<4096/\s.to p=false/\sG s.b a.b.q A/\(∃a',fX bo r m1 a.aEU s.tg (fB s.to p true) (s.tc+1) (up s.tP p 4096) (dE s.tl p (hP A)) (dE s.tp p []) a')/\Fr PZ own f m bo r m1/\bo (pl m 1)=0/\kR r m1 y L (pl m 1)):=by
 intro kk T E;unfold lY;have hM:=H.aM.obj;have hX:=H.b.aX.obj;have n0:M≠m:=O3;have n1:M≠pl m 1:=J8;have nm:m≠pl m 1:=W;refine cUx func83 ?_;simp only[go_sem,nm, ↓ag 132];refine aP ?_;intro F j;have hI:tZ own f m k A aF1 C t F (pl m 2):=⟨Wb,W,Q0,J3⟩;apply(wo (H.gr hI.gr) A hA).bu;rintro v r m1 ⟨⟨e,rfl,he⟩,P⟩;have I1:=hI.step P;have H1:=H.gr I1.gr;have wF:=H1.aM.obj;have QZ:=H1.b.aX.obj;have b0:=I1.a0;have b1:=I1.a1;have l1:=I1.l;have bad:∀(e:Int) r m1,tZ own f m k A aF1 C t r m1->e≠0->∀y L,kR r m1 y L (pl m 1)->kk (rep e 0 .au []) (.fn y L)=T:=λe r m1 h he y L q=>E _ _ _ (.inl ⟨e,he,rfl,⟨cL h.gr.le q.le,λx S=>Qr⟩⟩);have pT:∀{r:av} {m1:Nat} {f2:av} {m2:Nat} {o:O},B r m1 f2 m2->kR r m1 (bw f2 (pl m 1) o) m2 (pl m 1):=λq=>⟨q.le,λx S g=>Jr⟩;by_cases c:e=0
 case neg=>simp only[go_sem,c, ↓ag 52];apply(eF e _ r m1).bu;rintro v f2 m2 ⟨rfl,q2⟩;have I2:=I1.step q2;have c0:=I2.a0;have c1:=I2.a1;unfold rep at bad ⊢;refine zS ?_;exact bad e r m1 I1 c _ _ (pT q2)
 have hc:=he.1 c;have hp:=H.b.TM hc.1.2.1;rw[c];simp only[go_sem,b0,wF,QZ, ↓ag 133];apply(qZ H1.b.ue A hA).bu;rintro v f2 m2 ⟨rfl,q2⟩;rw[ao hc.1];have I2:=I1.step q2;have n:=H.gr I2.gr;have hM2:=n.aM.obj;have DM:=n.b.aX.obj;have c0:=I2.a0;have c1:=I2.a1;have l2:=I2.l;simp only[go_sem,hM2, ↓ag 138];apply(a1w n.t hcn hg (hP A) hp).bu;rintro v f3 m3 ⟨p,g9,rfl,hp4,ho,ht3,q3⟩;have om:own m=0:=H.b.z m (bP _);have xR:own (pl m 1)=0:=H.b.z _ W;have z0:¬PZ 0:=W;have d0:=(q3.ah m Z (by rw[om];exact z0)).trans c0;have d1:=(q3.ah (pl m 1) W (by rw[xR];exact z0)).trans c1;have LP:=(n.aM.ah q3 W).obj;have l3:=q3.le;simp only[go_sem, ↓ag 130];apply(jx _ 0 _ f3 m3).bu;rintro v f4 m4 ⟨rfl,i⟩;rw[ao rfl];have e0:=(i.ah m Z).trans d0;have e1:=(i.ah (pl m 1) W).trans d1;unfold rep at E ⊢;refine zS ?_;exact E _ _ _ (.inr ⟨p,g9,f3,m3,rfl,hp4,ho,hc,ht3,(I2.gr.fr own PZ).trans q3 (λ_ h=>h) (λ_ h=>h),(q3.same _ W).trans xR,pT i⟩)
def XL{R:Rt}(H:eA own f m M u s aEY N d Kp a)(hA:A<=9223372036854775807)(hcn:s.tc<4096)(hg:∀p,s.tg p<=1048575)(QV:∀p,s.b.gen p<=1048575):
  Cl R.Y.Y.Y.Y.Y.Y.Y.Y.Y 84 [.ptr M 0,lY k A aF1 C t] f m (λv y L=>(∃e:Int,e≠0/\v=rep e 0 .au []/\B f m y L)\/∃p bo r m1,v=rep 0 (kN 2 p (s.tg p) 0:Nat) .au []/\p<4096/\s.to p=false/\pM s.tg s.to A/\s.b.op (s.tl (hP A))=true/\(∃a',fX bo r m1 a.aEU s.tg (fB s.to p true) (s.tc+1) (up s.tP p (hP A)) (dE s.tl p (s.tl (hP A))) (dE s.tp p []) a')/\Fr PZ own f m bo r m1/\bo (pl m 1)=0/\kR r m1 y L (pl m 1)):=by
 intro kk T E;unfold lY;have hM:=H.aM.obj;have hX:=H.b.aX.obj;have n0:M≠m:=O3;have n1:M≠pl m 1:=J8;have nm:m≠pl m 1:=W;refine cUx func84 ?_;simp only[go_sem,nm, ↓ag 139];refine aP ?_;intro F j;have hI:tZ own f m k A aF1 C t F (pl m 2):=⟨Vu,W,Q0,J3⟩;apply(Hi (H.gr hI.gr) QV A hA).bu;rintro v r m1 ⟨⟨h0,e,rfl,_,he⟩,P⟩;have I1:=hI.step P;have H1:=H.gr I1.gr;have wF:=H1.aM.obj;have QZ:=H1.b.aX.obj;have b0:=I1.a0;have b1:=I1.a1;have l1:=I1.l;have bad:∀(e:Int) r m1,tZ own f m k A aF1 C t r m1->e≠0->∀y L,kR r m1 y L (pl m 1)->kk (rep e 0 .au []) (.fn y L)=T:=λe r m1 h he y L q=>E _ _ _ (.inl ⟨e,he,rfl,⟨cL h.gr.le q.le,λx S=>Qr⟩⟩);have pT:∀{r:av} {m1:Nat} {f2:av} {m2:Nat} {o:O},B r m1 f2 m2->kR r m1 (bw f2 (pl m 1) o) m2 (pl m 1):=λq=>⟨q.le,λx S g=>Jr⟩;by_cases c:e=0
 case neg=>simp only[go_sem,c, ↓ag 52];apply(eF e _ r m1).bu;rintro v f2 m2 ⟨rfl,q2⟩;have I2:=I1.step q2;have c0:=I2.a0;have c1:=I2.a1;unfold rep at bad ⊢;refine zS ?_;grind
 have hc:=he c;rw[c];simp only[go_sem,b0,wF, ↓ag 140];have I2:=I1;have n:=H1;have c0:=b0;have c1:=b1;have l2:=l1;apply(VQ n.t hcn hg A hA W).bu;rintro v f3 m3 ⟨p,g9,rfl,hp4,ho,ht3,q3⟩;have om:own m=0:=H.b.z m Z;have xR:own (pl m 1)=0:=H.b.z _ W;have z0:¬PZ 0:=W;have d0:=(q3.ah m Z W).trans c0;have d1:=(q3.ah (pl m 1) G W).trans c1;have LP:=(n.aM.ah q3 W).obj;have l3:=q3.le;simp only[go_sem, ↓ag 130];apply(jx _ 0 _ f3 m3).bu;rintro v f4 m4 ⟨rfl,i⟩;rw[ao rfl];have e0:=(i.ah m Z).trans d0;have e1:=(i.ah (pl m 1) W).trans d1;unfold rep at E ⊢;refine zS ?_;exact E _ _ _ (.inr ⟨p,g9,f3,m3,rfl,hp4,ho,W,(by have:=hc.2.1.1.2.1;grind),ht3,(I2.gr.fr own PZ).trans q3 (λ_ h=>h) (λ_ h=>h),(q3.same _ G).trans xR,W⟩)
end
section
variable {own:aG} {f:av} {m M aEY N d Kp:Nat} {u:Su} {s:Ms} {a:mS} {k A aF1 C:Int} {t:aI} {F:av} {M':Nat}
def PG{R:Rt}(H:eA own f m M u s aEY N d Kp a)(hA:A<=9223372036854775807)(hg:∀p,s.b.gen p<=1048575)(hgt:∀p,s.tg p<=1048575):
  Cl R.Y.Y.Y.Y.Y.Y.Y.Y 80 [.ptr M 0,lY k A aF1 C t] f m (λv y L=>(∃e:Int,e≠0/\v=rep e 0 .au []/\B f m y L)\/∃bo f1 m1,v=rep 0 0 .au []/\sG s.b a.b.q A/\(s.b.acc (hP A)).h+(s.b.acc (hP A)).r<=0/\0<s.b.cV/\(∃a',cY bo f1 m1 a.X {s.b with gen:=vV s.b.gen (hP A) (s.b.gen (hP A)+1),op:=fB s.b.op (hP A) false,cV:=s.b.cV-1} aEY N d a')/\Fr PA own f m bo f1 m1/\bo (pl m 1)=0/\kR f1 m1 y L (pl m 1)):=by
 intro kk T E;unfold lY;have hM:=H.aM.obj;have hX:=H.b.aX.obj;have n0:M≠m:=O3;have n1:M≠pl m 1:=J8;have nm:m≠pl m 1:=W;refine cUx func80 ?_;simp only[go_sem,nm, ↓ag 132];refine aP ?_;intro F j;have hI:tZ own f m k A aF1 C t F (pl m 2):=⟨Wb,W,Q0,J3⟩;apply(wo (H.gr hI.gr) A hA).bu;rintro v f1 m1 ⟨⟨e,rfl,he⟩,q1⟩;have I1:=hI.step q1;have H1:=H.gr I1.gr;have wF:=H1.aM.obj;have QZ:=H1.b.aX.obj;have b0:=I1.a0;have b1:=I1.a1;have l1:=I1.l;have bad:∀(e:Int) f1 m1,tZ own f m k A aF1 C t f1 m1->e≠0->∀y L,kR f1 m1 y L (pl m 1)->kk (rep e 0 .au []) (.fn y L)=T:=λe f1 m1 h he y L q=>E _ _ _ (.inl ⟨e,he,rfl,⟨cL h.gr.le q.le,λx S=>Qr⟩⟩);have pT:∀{f1:av} {m1:Nat} {f2:av} {m2:Nat} {o:O},B f1 m1 f2 m2->kR f1 m1 (bw f2 (pl m 1) o) m2 (pl m 1):=λq=>⟨q.le,λx S hn=>by rw[aE hn];exact q.ah x S⟩;by_cases c:e=0
 case neg=>simp only[go_sem,c, ↓ag 52];apply(eF e _ f1 m1).bu;rintro v f2 m2 ⟨rfl,q2⟩;have I2:=I1.step q2;have c0:=I2.a0;have c1:=I2.a1;unfold rep at bad ⊢;refine zS ?_;exact bad e f1 m1 I1 c _ _ (pT q2)
 have hc:=he.1 c;have hp:=H.b.TM hc.1.2.1;rw[c];simp only[go_sem,b0,wF,QZ, ↓ag 133];apply(qZ H1.b.ue A hA).bu;rintro v f2 m2 ⟨rfl,q2⟩;rw[ao hc.1];have I2:=I1.step q2;have H2:=H.gr I2.gr;have hM2:=H2.aM.obj;have DM:=H2.b.aX.obj;have c0:=I2.a0;have c1:=I2.a1;have l2:=I2.l;have om:own m=0:=H.b.z m (bP _);have xR:own (pl m 1)=0:=H.b.z _ W;simp only[go_sem,hM2, ↓ag 134];apply(abd H2.t hgt (hP A:Nat)).bu;rintro v f3 m3 ⟨⟨n,cs,hn,hI3⟩,q3⟩;have I3:=I2.step q3;have H3:=H.gr I3.gr;have LP:=H3.aM.obj;have d0:=I3.a0;have d1:=I3.a1;have l3:=I3.l;have P:=λq=>hI3.jD Z q;obtain⟨t1,t2,t3,t4⟩:=bV hI3;by_cases c3:(0:Int)<(n:Nat)
 .simp only[go_sem,c3,P, ↓ag 52];apply(eF 11 _ f3 m3).bu;rintro v g m4 ⟨rfl,i⟩;have I4:=I3.step i;have e0:=I4.a0;have e1:=I4.a1;unfold rep at bad ⊢;refine zS ?_;exact bad 11 f3 m3 I3 I _ _ (pT i)
 simp only[go_sem,c3,P,d0,LP, ↓ag 135];apply(St H3.b A hA hg).bu;rintro v g m4 (⟨e4,he4,rfl,i⟩|⟨rfl,NA,hh4,aq2,cS,hb4,i⟩)
 .have I4:=I3.step i;have hM4:=(H3.gr i).aM.obj;have d0':=I4.a0;have d1':=I4.a1;simp only[go_sem, ↓ag 52];apply(eF e4 _ g m4).bu;rintro v f5 m5 ⟨rfl,q5⟩;have I5:=I4.step q5;have e0:=I5.a0;have e1:=I5.a1;unfold rep at bad ⊢;refine zS ?_;exact bad e4 g m4 I4 he4 _ _ (pT q5)
 have z0:¬PA 0:=W;have g0:=(i.ah m Z (by rw[om];exact z0)).trans d0;have g1:=(i.ah (pl m 1) W (by rw[xR];exact z0)).trans d1;have hM4:=(H3.aM.ah i W).obj;have l4:=i.le;simp only[go_sem, ↓ag 52];apply(eF 0 _ g m4).bu;rintro v f5 m5 ⟨rfl,q5⟩;have e0:=(q5.ah m Z).trans g0;have e1:=(q5.ah (pl m 1) W).trans g1;unfold rep at E ⊢;refine zS ?_;exact E _ _ _ (.inr ⟨cS,g,m4,rfl,NA,hh4,aq2,hb4,(I3.gr.fr own PA).trans i (λ_ h=>h) (λ_ h=>h),(i.same _ W).trans xR,pT q5⟩)
end
def yp:∀s:aI,yq s s=true
 |[]=>rfl
 |x::s=>by show aR (Nat.beq x x) (yq s s) false=true;rw[fP];exact yp s
def a6H(s)(r:iR)(R)(ds:List D)(e h)(k:cF):tR (.str s) (.str s) r R ds e h k=r.run R ds e h k:=xA (v:=.str s) (yp s) ..
section
variable {own:aG} {f:av} {m M aEY N d Kp:Nat} {u:Su} {s:Ms} {a:mS} {k A aF1 C:Int} {t:aI} {F:av} {M':Nat}
def a3m{R:Rt}(H:eA own f m M u s aEY N d Kp a)(q:A<=9223372036854775807):
  Cl R.Y.Y.Y.Y.Y.Y.Y.Y 89 [.ptr M 0,lY k A aF1 C t] f m (λv y L=>(∃(e:Int) (x:aI),v=rep e 0 .au x/\(e≠0->x= []))/\B f m y L):=by
 intro kk T E;unfold lY;have hM:=H.aM.obj;have hX:=H.b.aX.obj;have i:M≠m:=O3;have n1:M≠pl m 1:=J8;have nm:m≠pl m 1:=W;refine cUx func89 ?_;refine zS ?_;refine ld ?_;intro F j;have h:tZ own f m k A aF1 C t F (pl m 2):=⟨Vu,W,Q0,J3⟩;have S:=H.gr h.gr;have hS:=λR L k=>nS (R:=R) S.b L k;have n:=h.a0;have g:=S.aM.obj;simp only[go_sem,hS,n,g, ↓ag 152];apply(a3s S.p S.b.re.st A aF1 C q).bu;rintro v r l ⟨⟨x,e,rfl,_,hx⟩,P⟩;have c:=h.step P;have z:=(S.gr P).aM.obj;have o:=c.a0;have b1:=c.a1;refine zS ?_;exact E _ _ _ ⟨⟨e,x,rfl,hx⟩,c.gr.bw W⟩
def XJ{R:Rt}(H:eA own f m M u s aEY N d Kp a)(hA:A<=9223372036854775807)(hg:∀p,s.b.gen p<=1048575)(ht:∀b∈t,b<256)(hl:t.length<=9223372036854775807):
  Cl R.Y.Y.Y.Y.Y.Y.Y.Y.Y 88 [.ptr M 0,lY k A aF1 C t] f m (λv y L=>∃(e:Int) (f1:av) (m1:Nat),v=rep e 0 .au []/\i9 own f1 m1 a.b.r.S s.b.n s.b.sz aEY s.b.ph s.b.ow s.b.ge s.b.xs a.b.r.A/\Fr PS own f m own f1 m1/\kR f1 m1 y L (pl m 1)):=by
 intro kk T E;unfold lY;have hM:=H.aM.obj;have hX:=H.b.aX.obj;have n0:M≠m:=O3;have n1:M≠pl m 1:=J8;have nm:m≠pl m 1:=W;have om:own m=0:=H.b.z m Z;have xR:own (pl m 1)=0:=H.b.z _ W;have pT:∀{f1:av} {m1:Nat} {f2:av} {m2:Nat} {o:O},B f1 m1 f2 m2->kR f1 m1 (bw f2 (pl m 1) o) m2 (pl m 1):=λq=>⟨q.le,λx hx hn=>R1⟩;have fin:∀(e:Int) (f1:av) (m1:Nat),tZ own f m k A aF1 C t f1 m1->∀y L,kR f1 m1 y L (pl m 1)->kk (rep e 0 .au []) (.fn y L)=T:=λe f1 m1 h y L q=>E _ _ _ ⟨e,f1,m1,rfl,(H.gr h.gr).b.re.st,h.gr.fr own _,q⟩;have W2:∀a b c d e z,laid 0 [a,b,c,d,e] z 2=c:=λ_ _ _ _ _ _=>rfl;have x5:∀i,M≠pl m i:=λi=>J8;have y5:∀i,1<=i->m≠pl m i:=λi h=>O6;have n2:=x5 2;have nm2:m≠pl m 2:=y5 2 I;have n12:pl m 1≠pl m 2:=W;refine cUx func88 ?_;simp only[go_sem,hM,n0,n1,n2,nm,nm2, ↓ag 150];refine aP ?_;intro F j;have hI:tZ own f m k A aF1 C t F (pl m 3):=⟨Vu,W,Q0,C0⟩;have w0:F (pl m 2)=(.row 153 5 0 true [.num 0,.num 0,.num 0,.num 0,.num 0] (.cf (zf [.num 0,.num 0,.num 0,.num 0,.num 0]))):=J3;have H0:=H.gr hI.gr;apply(Kq H0.p A hA).bu;rintro v f1 m1 ⟨⟨c,g,r,x,l,e,rfl,hr⟩,P⟩;have I1:=hI.step P;have H1:=H.gr I1.gr;have wF:=H1.aM.obj;have b0:=I1.a0;have b1:=I1.a1;have l1:=P.le;unfold pl at l1;have w1:=(P.ah (pl m 2) W).trans w0;by_cases ce:e=0
 case neg=>simp only[go_sem,w1,ce, ↓ag 52];refine aP ?_;intro F2 xo;have I2:tZ own f m k A aF1 C t F2 m1:=⟨Vo,I1.l,Xs,Xt⟩;apply(eF e _ F2 m1).bu;rintro v f3 m3 ⟨rfl,q3⟩;have I3:=I2.step q3;have e0:=I3.a0;have e1:=I3.a1;unfold rep at fin ⊢;refine zS ?_;grind
 rw[ce];simp only[go_sem,w1, ↓ag 139];refine aP ?_;intro F2 xo;have I2:tZ own f m k A aF1 C t F2 m1:=⟨Vo,I1.l,Xs,Xt⟩;have H2:=H.gr I2.gr;apply(Hi H2 hg r hr).bu;rintro v f3 m3 ⟨⟨h0,e3,rfl,_,he3⟩,q3⟩;have I3:=I2.step q3;have H3:=H.gr I3.gr;have LP:=H3.aM.obj;have d0:=I3.a0;have d1:=I3.a1;by_cases c3:e3=0
 case neg=>simp only[go_sem,c3, ↓ag 52];apply(eF e3 _ f3 m3).bu;rintro v f4 m4 ⟨rfl,q4⟩;have I4:=I3.step q4;have e0:=I4.a0;have e1:=I4.a1;unfold rep at fin ⊢;refine zS ?_;grind
 rw[c3];have hS:=λR L k=>nS (R:=R) H3.b L k;simp only[go_sem,d0,LP,hS,a6H, ↓ag 151];apply(XQ H3.p H3.b.re.st H3.b.z A aF1 t hA ht hl).bu;rintro v f4 m4 ⟨⟨e4,rfl⟩,Nz,q4⟩;have zP:¬PS 0:=W;have l3:=I3.l;have g0:=(q4.ah m Z W).trans d0;have g1:=(q4.ah (pl m 1) G W).trans d1;have hM4:=(H3.aM.ah q4 W).obj;have hS4:∀(R:Rt) (L:Nat) (k:cR),R.Y.call 144 [.ptr a.X 0] (.fn f4 L) k=k (.ptr a.b.r.S 0) (.fn f4 L):=by intro R L k;have YO:=(H3.b.aX.ah q4 W).obj;refine cUx func144 ?_;exact zC
 simp only[go_sem, ↓ag 52];apply(eF e4 _ f4 m4).bu;rintro v f5 m5 ⟨rfl,q5⟩;have l4:=q4.le;have e0:=(q5.ah m Z).trans g0;have e1:=(q5.ah (pl m 1) W).trans g1;unfold rep at E ⊢;refine zS ?_;exact E _ _ _ ⟨e4,f4,m4,rfl,Nz,(I3.gr.fr own PS).trans q4 (λ_ h=>h) (λ_ h=>h),W⟩
end
variable{fz m mm te:Nat}{f y:av}{zs:ay}
def i7.tr{d:av}{L y z n:Nat}{v:V}{cs:ay}{w:Bool}{c:Cells}(h:i7 f m te z v n cs)(p:f y= .row 37 mm fz w zs c)(j:te≠37)(b:∀x,x<m->x≠y->d x=f x)(R:m<=L):i7 d L te z v n cs:=by
 rcases h with h|⟨i,o,cp,e,a,l,S,g,A,N,M,u⟩
 .exact .inl h
 .exact .inr ⟨i,o,cp,e,a,l,S,g,A,Z,W,u⟩
def ll.tr{d:av}{L y:Nat}{v:V}{xs:dC}{w:Bool}{c:Cells}(h:ll f m v xs)(p:f y= .row 37 mm fz w zs c)(b:∀x,x<m->x≠y->d x=f x)(R:m<=L):ll d L v xs:=by
 rcases h with h|⟨i,o,cp,e,a,l,S,g,A,N,M,u⟩
 .exact .inl h
 .exact .inr ⟨i,o,cp,e,a,l,S,g,A,Z,W,u⟩
section
variable {own:aG} {f:av} {m M aEY N d Kp:Nat} {u:Su} {s:Ms} {a:mS}
structure StM(own:aG)(f:av)(m:Nat)(s:Ms)(v:V):Prop where
 st:∃vc vw vm vp vl os ps,v= .agg [Q s.b.tk,vc,vw,vm,vp,vl]/\StS own f m s.b os vc vw vm vp/\ps.Pairwise (· < ·)/\(∀x,x∈ps↔s.S x≠none)/\Lo own f m 153 5 vl (VC s.S ps) (alC s.S ps)
def StM.ah{t:aG}{L:Nat}{P:dF}{v:V}(h:StM own f m s v)(q:Fr P own f m t y L)(h0:¬P 0):StM t y L s v:=by obtain⟨j,k,n,l,a,e,i,A,N,M,u,r⟩:=h.st;exact⟨j,k,n,l,a,e,i,A,N.ah q h0,M,u,r.ah q h0⟩
def XM{R:Rt}(H:eA own f m M u s aEY N d Kp a)(hK:∀os:aI,os.Nodup->(∀x∈os,s.S x≠none)->VC s.S os<=4000):
  Cl R.Y.Y.Y.Y.Y.Y.Y.Y.Y 9 [.ptr M 0] f m (λv y L=>∃bo,StM bo y L s v/\eA bo y L M u s aEY N d Kp a/\Fr (· =31) own f m bo y L):=by
 intro kk T E;have hM:=H.aM.obj;have n0:M≠m:=O3;have n1:M≠pl m 1:=J8;have n01:m≠pl m 1:=W;refine cUx func9 ?_;simp only[go_sem,hM,n0, ↓ag 20];refine aP ?_;intro F hF;have q0:B f m F (pl m 1):=Vw;have om:own m=0:=H.b.z m Z;have a0:F m=(.row 37 6 0 true [.num 0,.au,.au,.au,.au,.au] (.cf (zf [.num 0,.au,.au,.au,.au,.au]))):=O2;have H0:=H.gr q0;apply(a0f H0.b).bu;rintro v r l ⟨j,k,n,vp,os,bX,rfl,P,hb1,q1⟩;have z1:=hb1.z;have p9:∀c,PZ c\/c=55\/PV c\/c=9->¬c=31:=λc h=>by unfold PZ PF PV at h;omega
 have H1:eA bX r l M u s aEY N d Kp a:=⟨H0.aM.ah q1 I,hb1,H0.t.ah q1 W I,H0.p.ah q1 W⟩;have wF:=H1.aM.obj;have l1:m<l:=U5;have xR:bX m=0:=(q1.same m W).trans om;have a1:=(q1.ah m W Z).trans a0;have nM:M≠l:=by have:=H1.aM.lt;omega
 obtain⟨c1,c2,c3,c4⟩:=bV P.fc.1;obtain⟨d1,d2,d3,d4⟩:=bV P.fm.1;obtain⟨e1,e2,e3,e4⟩:=bV P.fp.1;have hw:=P.fw;have w1:∀q,V.live k q=q k:=λq=>bN hw.bC q;have w2:∀q d,V.bt k q d=q k:=λq d=>X3;have w3:∀q,V.one k q=q k:=λq=>X3;have w4:∀q,V.cells k q=q [k]:=λq=>X3;simp only[go_sem,wF,nM, ↓ag 21];refine aP ?_;intro F2 xo;have Eh:B r l F2 (pl l 1):=Wd;have b2:F2 l=(.row 37 6 0 true [.num 0,.au,.au,.au,.au,.au] (.cf (laid 0 [Q s.b.tk,j,k,n,vp,.au] (zf [.num 0,.au,.au,.au,.au,.au])))):=Xv;have H2:=H1.gr Eh;apply(a7t H2.p hK).bu;rintro vl f3 m3 ⟨⟨ps,yl,QR,hp3,hnw⟩,q3⟩;have H3:=H2.gr q3;have LP:=H3.aM.obj;have l3:=q3.le;unfold pl at l3;have b3:=(q3.ah l W).trans b2;have a3:=((Eh.trans q3).ah m l1).trans a1;obtain⟨g1,g2,g3,g4⟩:=bV hp3;have nm:m≠l:=Z;have K0:∀a b c d e f z,laid 0 [a,b,c,d,e,f] z 0=a:=λ_ _ _ _ _ _ _=>rfl;have K1:∀a b c d e f z,laid 0 [a,b,c,d,e,f] z 1=b:=λ_ _ _ _ _ _ _=>rfl;have K2:∀a b c d e f z,laid 0 [a,b,c,d,e,f] z 2=c:=λ_ _ _ _ _ _ _=>rfl;have K3:∀a b c d e f z,laid 0 [a,b,c,d,e,f] z 3=d:=λ_ _ _ _ _ _ _=>rfl;have K4:∀a b c d e f z,laid 0 [a,b,c,d,e,f] z 4=e:=λ_ _ _ _ _ _ _=>rfl;have K5:∀a b c d e f z,laid 0 [a,b,c,d,e,f] z 5=f:=λ_ _ _ _ _ _ _=>rfl;refine zS ?_;refine fG ?_;intro aEZ hG;have eG:∀x,x≠m->x≠l->aEZ x=f3 x:=λx A h2=>by rw[hG,aE A,aE h2]
 have axJ:bX l=0:=W;have q13:B r l f3 m3:=Eh.trans q3;have hvl:Lo bX aEZ m3 153 5 vl (VC s.S ps) (alC s.S ps):=by
  refine⟨?_,λb o n' cp e=>z1 _ (by have:=hnw _ _ _ _ e;unfold pl at this;omega)⟩;rcases hp3 with h|⟨i,o,cp,mm,fz,w,zs,g,A,h2,h3,h4⟩
  .exact .inl h
  .have:=hnw _ _ _ _ A;exact .inr ⟨i,o,cp,mm,fz,w,zs,g,A,h2,W,h4⟩
 have he:∀x,x<l->x≠m->aEZ x=r x:=λx A h2=>by rw[eG x h2 Z];exact q13.ah x A
 have a8v:=q13.le;have hSG:StS bX aEZ m3 s.b os j k n vp:=⟨⟨P.fc.1.tr a1 I he a8v,P.fc.2⟩,P.fw.tr a1 he a8v,P.w0,P.o1,P.o2,P.o3,⟨P.fm.1.tr a1 I he a8v,P.fm.2⟩,⟨P.fp.1.tr a1 I he a8v,P.fp.2⟩⟩;have qG:Fr (· =0) bX f3 m3 bX aEZ m3:=by rw[hG];exact((Fr.refl _ bX f3 m3).bw Z).bw Z
 refine E _ _ _ ⟨bX,⟨j,k,n,vp,vl,os,ps,rfl,hSG,yl,QR,hvl⟩,H3.ah qG (λc h e=>by subst e;unfold PM PBr PR PS PZ PF PV at h;omega),?_⟩;have Dx:Fr (· =31) own f m bX f3 m3:=((q0.fr own (· =31)).trans q1 (λ_ h=>h) (λ_ h=>h)).trans (q13.fr bX (· =31)) (λ_ h=>h) Z;rw[hG];exact(Dx.bw Z).bw Z
end
def aca(n f z:Nat):Ms:=⟨a7U n f z,λ_=>0,λ_=>false,0,λ_=>-1,λ_=>0,λ_=>[],λ_=>none⟩
def a3p(own f)(m:Nat)(hz:∀x,m<=x->own x=0)(R:Rt)(c z q lo:Int)(hc:¬(12<c/\c<=1048576))(hz':¬(256<z/\z<=1048576)):
  Cl R.Y.Y.Y.Y.Y.Y.Y.Y 19 [.agg [Q c,Q z,Q q,Q lo]] f m (λv y L=>(∃e:Int,e≠0/\v= .cI [.bg,Q e]/\∃t,Fr (λc=>c=2\/c=21) own f m t y L)\/∃(M n sz qt:Nat) (t:aG) (a:mS),v= .cI [.ptr M 0,Q 0]/\c=(n:Nat)/\z=(sz:Nat)/\q=(qt:Nat)/\1<=n/\n<=12/\64<=sz/\sz<=256/\eA t y L M ⟨c,z,q,lo⟩ (aca n sz qt) 0 0 0 0 a/\Fr (λc=>c=2\/c=21) own f m t y L):=by
 intro k S E;refine cUx func19 ?_;simp only[go_sem, ↓ag 36];refine aP ?_;intro F j;have q0:B f m F (pl m 1):=Vv;have om:own m=0:=W;have a0:F m=(.row 23 4 0 true [.num 0,.num 0,.num 0,.num 0] (.cf (bI [Q c,Q z,Q q,Q lo]))):=J3;have n0:¬(0=2\/0=21):=I;apply(a9m own F (pl m 1) (λx hx=>hz x W) _ c z q lo hc hz').bu;rintro v r l (⟨e,he,rfl,b,P⟩|⟨X,n,sz,qt,b,ba,rfl,rfl,rfl,rfl,A,h2,h3,u,hB,P⟩)
 .have a1:=(P.ah m W Z).trans a0;refine zS ?_;exact E _ _ _ (.inl ⟨e,he,rfl,b,(q0.fr own _).trans P (λ_ h=>h) Z⟩)
 have a1:=(P.ah m W Z).trans a0;have l1:m<l:=T4;simp only[go_sem,a1, ↓ag 37];apply(a6M b r l _).bu;rintro v d C ⟨aEU,dm,ta,rfl,hT,o⟩;have i:=(o.ah m l1 id).trans a1;simp only[go_sem,i, ↓ag 38];apply(a7s dm d C _).bu;rintro v N s ⟨aEW,g,pa,rfl,hP,p⟩;have a3:=(p.ah m (bW l1 o.le) id).trans i;refine zS ?_;refine fG ?_;intro H hG;have q4:Fr (λ_=>False) g N s (rQ g s 9) H (pl s 1):=by
  have h:B N s H (pl s 1):=by rw[hG];exact(B.w (m2:=s) Qc E1)
  exact(h.fr g _).owns Z W
 have q24:Fr (λ_=>False) dm d C (rQ g s 9) H (pl s 1):=p.trans q4 (λ_ h=>h) (λ_ h=>h);have q14:Fr (λ_=>False) b r l (rQ g s 9) H (pl s 1):=o.trans q24 (λ_ h=>h) (λ_ h=>h);refine E _ _ _ (.inr ⟨s,n,sz,qt,rQ g s 9,⟨X,aEU,aEW,ba,ta,pa⟩,rfl,rfl,rfl,rfl,A,h2,h3,u,⟨⟨?_,iY ..,W⟩,hB.ah q14 (λ_ _=>id),hT.ah q24 (λ_ _=>id) id,hP.ah q4 (λ_ _=>id)⟩,((q0.fr own _).trans P (λ_ h=>h) Z).trans q14 (λ_ h=>h) (λ_ h=>h.elim)⟩);rw[hG];exact aK ..
section
variable {own:aG} {f:av} {m M aEY N d Kp:Nat} {u:Su} {s:Ms} {a:mS} {k A aF1 C:Int} {t:aI} {F:av} {M':Nat}
def a3o{R:Rt}(H:eA own f m M u s aEY N d Kp a)(hA:A<=9223372036854775807)(hg:∀p,s.tg p<=1048575)(QV:∀p,s.b.gen p<=1048575)(hK:aEY+64<1048575)(hl:∀p,(s.b.pu p).length<=64)
  (hd:∀l:aI,l.Nodup->(∀z∈l,s.to z=true)->(l.flatMap s.tp).length<=64)
  (Hz:∀(c:Nat) (pre:aI),pre.Nodup->(∀z∈pre,s.to z=true/\s.tl z=c)->∃cs:aI,(pre.flatMap s.tp)=cs.map (λ(x:Nat)=>(x:Int))/\cs.Nodup/\(∀i∈cs,i<s.b.n/\s.b.ph i=1/\s.b.ow i=(c:Nat)+1/\i∉s.b.pu c)/\(s.b.op c=true->(cs.length:Int)<=(s.b.acc c).h)):
  Cl R.Y.Y.Y.Y.Y.Y.Y.Y.Y.Y.Y.Y 86 [.ptr M 0,lY k A aF1 C t] f m (λv y L=>(∃e:Int,e≠0/\v=rep e 0 .au []/\B f m y L)\/∃(pre cs:aI) (bo:aG) (r:av) (m1:Nat) (s':Ms) (a':mS) (h:Int),v=rep 0 (cs.length:Nat) .au []/\pre.Nodup/\(∀z∈pre,s.to z=true/\s.tl z=hP h)/\(pre.flatMap s.tp)=cs.map (λ(x:Nat)=>(x:Int))/\sG s.b a.b.q h/\
   s'.b=vP s.b (hP h) cs/\s'.tl=s.tl/\s'.tp=s.tp/\(∀k,s'.to k=true↔s.to k=true/\k∉pre)/\(∀k,s'.tg k<=s.tg k+1)/\s'.tc<=s.tc/\eA bo r m1 M u s' (aEY+cs.length) N d Kp a'/\Fr (λc=>PM c/\c≠9\/c=8) own f m bo r m1/\bo (pl m 1)=0/\kR r m1 y L (pl m 1)):=by
 intro kk T hk;unfold lY;have hM:=H.aM.obj;have hX:=H.b.aX.obj;have n0:M≠m:=O3;have n1:M≠pl m 1:=J8;have nm:m≠pl m 1:=W;have om:own m=0:=H.b.z m Z;have xR:own (pl m 1)=0:=H.b.z _ W;have pT:∀{r:av} {m1:Nat} {f2:av} {m2:Nat} {o:O},B r m1 f2 m2->kR r m1 (bw f2 (pl m 1) o) m2 (pl m 1):=λq=>⟨q.le,λx hx hn=>R1⟩;have bad:∀(e:Int) r m1,tZ own f m k A aF1 C t r m1->e≠0->∀y L,kR r m1 y L (pl m 1)->kk (rep e 0 .au []) (.fn y L)=T:=λe r m1 h he y L q=>hk _ _ _ (.inl ⟨e,he,rfl,⟨cL h.gr.le q.le,λx hx=>by rw[q.eq x (bW hx h.gr.le) W];exact h.gr.ah x hx⟩⟩);refine cUx func86 ?_;simp only[go_sem,nm, ↓ag 139];refine aP ?_;intro F j;have hI:tZ own f m k A aF1 C t F (pl m 2):=⟨Vu,W,Q0,J3⟩;apply(Hi (H.gr hI.gr) QV A hA).bu;rintro v r m1 ⟨⟨h0,e,rfl,hh0,he⟩,q1⟩;have I1:=hI.step q1;have H1:=H.gr I1.gr;have wF:=H1.aM.obj;have b0:=I1.a0;have b1:=I1.a1;have l1:=I1.l;by_cases c:e=0
 case neg=>simp only[go_sem,c, ↓ag 52];apply(eF e _ r m1).bu;rintro v f2 m2 ⟨rfl,q2⟩;have I2:=I1.step q2;have c0:=I2.a0;have c1:=I2.a1;unfold rep at bad ⊢;refine zS ?_;grind
 obtain⟨hr,hid,zy⟩:=he c;rw[c];simp only[go_sem,b0,wF, ↓ag 146];apply(a1x H1.t hg hd A hA hr).bu;rintro v f2 m2 ⟨pre,Y,dm,rfl,hpn,hpm,QP,IK,⟨tg',to',tc',tP',ta',hT2,ht1,ht2,ht3⟩,q2⟩;rw[←zy] at hpm;obtain⟨cs,QX,hcn,hcm,hch⟩:=Hz (hP h0) pre hpn hpm;have hs3:bS dm 8 f2 m2 3 1 Y cs.length (puC cs):=by have:=IK;rw[QX,dT,lE] at this;exact this
 have av1:cs.length<=64:=by have:=hd pre hpn (λz hz=>(hpm z hz).1);rw[QX,dT] at this;exact this
 have zZ:¬PZ 0:=W;have c0:=(q2.ah m Z W).trans b0;have c1:=(q2.ah (pl m 1) G W).trans b1;have z9:¬PZ 9:=W;have aM2:=H1.aM.ah q2 z9;have hM2:=aM2.obj;have hB2:=H1.b.ah q2 W;have hP2:=H1.p.ah q2 W;have l2:=q2.le;have P:=λq=>hs3.jD Z q;simp only[go_sem,hs3.live,P];refine cU (x:=.exit 0) (n:=cs.length+1) (aF0:=λrem e y L=>∃(q:Nat) (S':Nat->Option Pc) (ap':IB),q+rem=cs.length+1/\1<=rem/\gY dm y L a.aEW Kp S' ap'/\Fr (· =60) dm f2 m2 dm y L/\(eg 0).get e= .ptr M 0/\(eg 3).get e= .ptr m 0/\(eg 4).get e= .ptr (pl m 1) 0/\(eg 5).get e=Q h0/\(eg 7).get e=Y/\(eg 35).get e=Y/\(eg 36).get e=Q cs.length/\(eg 37).get e=Q q)
  (E:=λe y L=>∃(S':Nat->Option Pc) (ap':IB),gY dm y L a.aEW Kp S' ap'/\Fr (· =60) dm f2 m2 dm y L/\(eg 0).get e= .ptr M 0/\(eg 3).get e= .ptr m 0/\(eg 4).get e= .ptr (pl m 1) 0/\(eg 5).get e=Q h0/\(eg 7).get e=Y) ?_ J2 ?_ ?_
 .exact ⟨0,s.S,a.p,Z,Z,hP2,Fr.refl ..,E6,E6,E6,E6,E6,E6,E6,E6⟩
 .rintro rem e' fa ma ⟨q,S',ap',hqr,Hy,hPa,qa,u0,u3,u4,u5,u7,u35,u36,u37⟩ rr kx lR hE;unfold iB;by_cases hq:q<cs.length
  case neg=>have hq':¬((q:Int)<(cs.length:Nat)):=Z;refine zS ?_;exact hE _ _ _ ⟨S',ap',hPa,qa,u0,u3,u4,u5,u7⟩
  have hq':((q:Int)<(cs.length:Nat)):=Z;obtain⟨x,o,cp,mm,fz,w,zs,g,rfl,hx,hf,nz,hgx⟩:=(hs3.ah qa I).uf.at hq;have LN:g (o+q)=Q (cs[q]:Nat):=by have:=hgx 0 I;rw[nV,j8,j8] at this;rw[this];unfold puC;rw[k9 _ _ hq]
  have c5:o+q<mm:=Z;have hMa:=(aM2.ah qa I).obj;have ewq:IntKind.i64.wrap ((q:Int)+1)=((q+1:Nat):Int):=Qf;simp only[go_sem,u0,u35,u36,u37,hq',hf,LN,c5,hq,hMa, ↓ag 147];apply(a2G hPa cs[q]).bu;rintro v fb mb ⟨⟨n,rfl⟩,⟨ap2,hPb⟩,qb⟩;refine zS ?_;exact lR (rem-1) _ _ _ Z ⟨q+1,_,ap2,Z,Z,hPb,qa.trans qb Z Z,E6,E6,E6,E6,E6,E6,E6,E6⟩
 .rintro e' fa ma ⟨S',ap',hPa,qa,u0,u3,u4,u5,u7⟩;have aMa:=aM2.ah qa I;have hMa:=aMa.obj;have hBa:=hB2.ah qa W;have hTa:=hT2.ah qa W I;have hsa:=hs3.ah qa I;simp only[go_sem,u0,u5,u7,hMa,hsa.live,P, ↓ag 148];refine(a0h hBa h0 hh0 hl (v:=Y) (cs:=cs) (λbo y L q=>(hsa.ah q W).uf) hcn hcm hK hch).bu ?_;rintro v fb mb (⟨e4,he4,hni,rfl,q4⟩|⟨rfl,hi4,cS,⟨ab4,hB4⟩,q4⟩)
  .trivial
  have zU:¬PUp 0:=W;have om2:dm m=0:=(q2.same m Z).trans om;have ao0:dm (pl m 1)=0:=(q2.same _ G).trans xR;have la:=qa.le;have d0:=(q4.ah m Z W).trans ((qa.ah m Z Z).trans c0);have d1:=(q4.ah (pl m 1) W W).trans ((qa.ah (pl m 1) W Z).trans c1);have aMb:=aMa.ah q4 W;have hMb:=aMb.obj;have l4:=q4.le;simp only[go_sem, ↓ag 130];apply(jx (cs.length:Nat) 0 _ fb mb).bu;rintro v fc mc ⟨rfl,q5⟩;rw[ao rfl];have g0:=(q5.ah m Z).trans d0;have g1:=(q5.ah (pl m 1) W).trans d1;unfold rep at hk ⊢;refine zS ?_;refine hk _ _ _ (.inr ⟨pre,cs,cS,fb,mb,⟨vP s.b (hP h0) cs,tg',to',tc',tP',s.tl,s.tp,S'⟩,⟨a.X,a.aEU,a.aEW,ab4,ta',ap'⟩,h0,rfl,hpn,hpm,QX,hid,rfl,rfl,rfl,ht1,ht2,ht3,⟨aMb,hB4,hTa.ah q4 W W,hPa.ah q4 W⟩,?_,(q4.same _ W).trans ao0,W⟩);refine(((I1.gr.fr own _).trans q2 (λ_ h=>h) (λc h=>?_)).trans qa (λ_ h=>h) (λc h=>?_)).trans q4 (λ_ h=>h) (λc h=>?_)
  .exact .inl ⟨.inr (.inl h),W⟩
  .exact .inl ⟨.inr (.inr (.inr (.inl h))),Z⟩
  .exact .inl ⟨.inl (h.elim .inl (λh=>.inr Z)),W⟩
end
variable{Kp':Nat}
@[grind] def PLy(c:Nat):Prop:=c=40\/c=54\/PV c
structure OpS(own:aG)(f:av)(m M:Nat)(u:Su)(aEY N d Kp:Nat)(k A aF1 C:Int)(t:aI)(bo:aG)(F:av)(M':Nat)(s:Ms)(a:mS):Prop where
 fr:Fr PLy own f m bo F M'
 l:m+2<=M'
 o0:bo m=0
 o1:bo (pl m 1)=0
 a0:F m=(.row 60 5 0 true [.num 0,.num 0,.num 0,.num 0,.str []] (.cf (bI [Q k,Q A,Q aF1,Q C,.str t])))
 a1:F (pl m 1)=(.row 54 4 0 true [.num 0,.num 0,.au,.str []] (.cf (zf [.num 0,.num 0,.au,.str []])))
 H:eA bo F M' M u s aEY N d Kp a
section
variable {own:aG} {f:av} {m M aEY N d Kp:Nat} {u:Su} {s:Ms} {a:mS} {k A aF1 C:Int} {t:aI} {F:av} {M':Nat}
@[grind →] theorem OpS.gr{b:aG}{i:av}(h:OpS own f m M u aEY N d Kp k A aF1 C t b F M' s a)(q:B F M' i S):OpS own f m M u aEY N d Kp k A aF1 C t b i S s a:=
 ⟨h.fr.trans (q.fr b PLy) (λ_ h=>h) (λ_ h=>h),cL h.l q.le,h.o0,h.o1,(q.ah m Jn).trans h.a0,(q.ah (pl m 1) D9).trans h.a1,h.H.gr q⟩
def OpS.RC{j e:aG}{i:av}{P:dF}{s':Ms}{a':mS}(h:OpS own f m M u aEY N d Kp k A aF1 C t j F M' s a)(q:Fr P j F M' e i S)(g:∀c,P c->PLy c)(h0:¬P 0)(b:eA e i S M u s' aEY N d Kp' a'):OpS own f m M u aEY N d Kp' k A aF1 C t e i S s' a':=
 ⟨h.fr.trans q (λ_ h=>h) g,cL h.l q.le,(q.same m Jn).trans h.o0,(q.same _ D9).trans h.o1,(q.ah m Jn (by rw[h.o0];trivial)).trans h.a0,(q.ah (pl m 1) D9 (by rw[h.o1];trivial)).trans h.a1,b⟩
def a5V(own:aG)(f:av)(m M:Nat)(u:Su)(s:Ms)(aEY N d Kp:Nat)(a:mS)(A:Int)(v:V)(y:av)(L:Nat):Prop:=∃(e n:Int) (i:aG) (r:av) (h:Nat) (o:Ms) (p:mS) (g:Nat),v=rep e n .au []/\n<=9223372036854775807/\(e≠0->n=0/\o.S=s.S)/\g<=Kp+1/\eA i r h M u o aEY N d g p/\Fr PLy own f m i r h/\i (pl m 1)=0/\kR r h y L (pl m 1)/\o.tg=s.tg/\o.to=s.to/\o.tc=s.tc/\o.tl=s.tl/\
 ((o.b=s.b/\o.tp=s.tp)\/∃c l,s.b.op (s.tl (hP A))=true/\s.to (hP A)=true/\s.b.pu (s.tl (hP A))=c::l/\o.b={s.b with pu:=dE s.b.pu (s.tl (hP A)) l}/\(o.tp=s.tp\/o.tp=dE s.tp (hP A) (s.tp (hP A)++ [(c:Int)])))
def a7V{R:Rt}(H:eA own f m M u s aEY N d Kp a)(hA:A<=9223372036854775807)(hC:C<=9223372036854775807)(QV:∀p,s.b.gen p<=1048575)(hl:∀p,(s.b.pu p).length<=64)(EW:∀k,s.to k=true->(s.tp k).length<64)
  (hpg:∀k,s.to k=true->∀x∈s.tp k,∃i:Nat,x=i/\i<s.b.n) (hpu:∀p,∀i∈s.b.pu p,i<s.b.n) (hKp:Kp<4000):
  Cl R.Y.Y.Y.Y.Y.Y.Y.Y.Y 85 [.ptr M 0,lY k A aF1 C t] f m (λv y L=>a5V own f m M u s aEY N d Kp a A v y L):=by
 intro kk T hk;have aia:s.b.n<=64:=H.b.re.st.s.n1;unfold lY;have hM:=H.aM.obj;have hX:=H.b.aX.obj;have n0:M≠m:=O3;have n1:M≠pl m 1:=J8;have nm:m≠pl m 1:=W;have N2:∀a b c z,laid 0 [a,b,c] z 2=c:=λ_ _ _ _=>rfl;have pT:∀{r:av} {m1:Nat} {f2:av} {m2:Nat} {o:O},B r m1 f2 m2->kR r m1 (bw f2 (pl m 1) o) m2 (pl m 1):=λq=>⟨q.le,λx hx hn=>R1⟩;have z54:∀c:Nat,c=54->PLy c:=λc h=>.inr (.inl h);have Hr:∀{bX dm:aG} {r f2:av} {m1 m2:Nat} {j:Ms} {a1:mS} {tp:Nat->dC} {ta:tX},eA bX r m1 M u j aEY N d Kp a1->Fr (· =54) bX r m1 dm f2 m2->fX dm f2 m2 a1.aEU j.tg j.to j.tc j.tP j.tl tp ta->eA dm f2 m2 M u {j with tp:=tp} aEY N d Kp {a1 with t:=ta}:=λh q ht=>⟨h.aM.ah q I,h.b.ah q W,ht,h.p.ah q W⟩;refine cUx func85 ?_;simp only[go_sem,nm, ↓ag 139];refine aP ?_;intro F hF;have qF:B f m F (pl m 2):=Wj;have S0:OpS own f m M u aEY N d Kp k A aF1 C t own F (pl m 2) s a:=⟨qF.fr own _,W,H.b.z m (bP _),H.b.z _ W,O7,O2,H.gr qF⟩;apply(Hi S0.H QV A hA).bu;rintro v r m1 ⟨⟨h0,e,rfl,hh0,he⟩,q1⟩;have S1:=S0.gr q1;have b0:=S1.a0;have b1:=S1.a1;have wF:=S1.H.aM.obj;have bad:∀(e:Int) (bX:aG) r m1 j a1,OpS own f m M u aEY N d Kp k A aF1 C t bX r m1 j a1->j.S=s.S->j.tg=s.tg->j.to=s.to->j.tc=s.tc->j.tl=s.tl->((j.b=s.b/\j.tp=s.tp)\/∃c l,s.b.op (s.tl (hP A))=true/\s.to (hP A)=true/\s.b.pu (s.tl (hP A))=c::l/\j.b={s.b with pu:=dE s.b.pu (s.tl (hP A)) l}/\(j.tp=s.tp\/j.tp=dE s.tp (hP A) (s.tp (hP A)++ [(c:Int)])))->∀y L,kR r m1 y L (pl m 1)->kk (rep e 0 .au []) (.fn y L)=T:=λe bX r m1 j a1 h e1 e2 e3 e4 e5 e6 y L q=>hk _ _ _ ⟨e,0,bX,r,m1,j,a1,Kp,rfl,Z,λ_=>⟨rfl,e1⟩,gC _,h.H,h.fr,h.o1,q,e2,e3,e4,e5,e6⟩;by_cases c:e=0
 case neg=>simp only[go_sem,c, ↓ag 52];apply(eF e _ r m1).bu;rintro v f2 m2 ⟨rfl,q2⟩;have S2:=S1.gr q2;have c0:=S2.a0;have c1:=S2.a1;unfold rep at bad ⊢;refine zS ?_;exact bad e _ r m1 _ _ S1 rfl rfl rfl rfl rfl (.inl ⟨rfl,rfl⟩) _ _ (pT q2)
 obtain⟨hr,hid,zy⟩:=he c;have hto:s.to (hP A)=true:=hr.2.2.2.1;have Dm:s.b.op (s.tl (hP A))=true:=by have:=hid.1.2.1;rw[zy] at this;exact this
 rw[c];simp only[go_sem,b0,wF, ↓ag 141];apply(SQ S1.H.t A hA hr aF1 C u.z hC).bu;rintro v f2 m2 ⟨i2,at2,e2,rfl,hi2,dm,⟨ta2,hT2⟩,q2⟩;have S2:=S1.RC q2 z54 I (Hr S1.H q2 hT2);have c0:=S2.a0;have c1:=S2.a1;have hM2:f2 M=(.row 77 7 0 true [.num 0,.num 0,.num 0,.num 0,.bg,.bg,.bg] (.cf (bI [Q u.c,Q u.z,Q u.q,Q u.l,.ptr a.X 0,.ptr a.aEU 0,.ptr a.aEW 0]))):=S2.H.aM.obj;have hBx:cY dm f2 m2 a.X s.b aEY N d a.b:=S2.H.b;have hPx:gY dm f2 m2 a.aEW Kp s.S a.p:=S2.H.p;by_cases ce:e2=9
 case neg=>
  by_cases cf:e2=0
  case neg=>simp only[go_sem,ce,cf, ↓ag 52];apply(eF e2 _ f2 m2).bu;rintro v g1 E ⟨rfl,qz⟩;have Z1:=S2.gr qz;have y0:=Z1.a0;have y1:=Z1.a1;unfold rep at bad ⊢;refine zS ?_;exact bad e2 _ f2 m2 _ _ S2 rfl rfl rfl rfl rfl (.inl ⟨rfl,rfl⟩) _ _ (pT qz)
  obtain⟨ii,hii,QT⟩:=hpg _ hto _ (hi2 cf);subst hii;have P:=λR L k=>nS (R:=R) hBx L k;have nMz:M≠m2:=by have:=S2.H.aM.lt;omega
  have lz:=S2.l;have nmz:m≠m2:=Z;have n1z:pl m 1≠m2:=W;simp only[go_sem,hM2,P,cf, ↓ag 68];apply(vT hBx.re.st ii QT _).bu;rintro v g1 E ⟨rfl,qz⟩;have Z1:=S2.gr qz;have y0:=Z1.a0;have y1:=Z1.a1;have lMz:M<m2:=S2.H.aM.lt;have yM:=(qz.ah M lMz).trans hM2;have nMw:M≠E:=Zt;have lw:=Z1.l;have nmw:m≠E:=Z;have n1w:pl m 1≠E:=W;have hBz:=hBx.gr qz;have hS1:=λR L k=>nS (R:=R) hBz L k;simp only[go_sem,y0,yM,nMw,nmw, ↓ag 145];refine aP ?_;intro g2 xm;have qy:B g1 E g2 (pl E 1):=Wg;have Z2:=Z1.gr qy;have az:g2 E=(.row 151 3 0 true [.num 0,.num 0,.num 0] (.cf (laid 0 [Q (s.b.ph ii),Q (s.b.ow ii),Q (s.b.ge ii)] (zf [.num 0,.num 0,.num 0])))):=Xz;apply(TG ((hPx.gr qz).gr qy) hKp ii Z (s.b.ge ii) A at2 aF1 hA).bu;rintro v g3 w3 ⟨nn,e3,rfl,hnn,g,S',⟨pa3,hP3⟩,he3,zx,qx⟩;have oz:dm E=0:=Z1.H.b.z E (bP _);have zV:¬PV 0:=W;have Z3:=Z2.RC (Kp':=Kp+1) qx (λc h=>.inr (.inr h)) zV (s':={s with S:=S'}) (a':={({a with t:=ta2}:mS) with p:=pa3}) ⟨Z2.H.aM.ah qx W,Z2.H.b.ah qx W,Z2.H.t.ah qx W W,hP3⟩;have x0:=Z3.a0;have x1:=Z3.a1;have lMw:M<pl E 1:=Z2.H.aM.lt;have oM:dm M=9:=S2.H.aM.own;have xM:=(qx.ah M lMw Zu).trans ((qy.ah M (bW lMz qz.le)).trans yM);have az3:=(qx.ah E W (by rw[oz];exact zV)).trans az;simp only[go_sem, ↓ag 130];apply(jx nn e3 _ g3 w3).bu;rintro v g4 w4 ⟨rfl,qw⟩;have Z4:=Z3.gr qw;have v0:=Z4.a0;have v1:=Z4.a1;have vM:=(qw.ah M (bW lMw qx.le)).trans xM;have az4:=(qw.ah E F7).trans az3;by_cases cg:e3=0
  case pos=>rw[ao cg];unfold a5V rep at hk;unfold rep;refine zS ?_;exact hk _ _ _ ⟨0,nn,g,g3,w3,_,_,Kp+1,rfl,hnn,λh=>absurd rfl h,bP _,Z3.H,Z3.fr,Z3.o1,pT qw,rfl,rfl,rfl,rfl,.inl ⟨rfl,rfl⟩⟩
  case neg=>rw[aj cg];unfold a5V rep at hk;unfold rep;refine zS ?_;exact hk _ _ _ ⟨e3,0,g,g3,w3,_,_,Kp+1,rfl,Z,λ_=>⟨rfl,(he3 cg).2⟩,bP _,Z3.H,Z3.fr,Z3.o1,pT qw,rfl,rfl,rfl,rfl,.inl ⟨rfl,rfl⟩⟩
 have hS2:=S2.H;rw[ce];simp only[go_sem,hM2, ↓ag 142];apply(a0g hBx h0 hh0 hl).bu;rintro v f3 m3 (⟨e3,he3,rfl,q3⟩|⟨ch,l,rfl,azq,YH,⟨l',ck,UA⟩,q3⟩)
 .have S3:=S2.gr q3;have d0:=S3.a0;have d1:=S3.a1;have LP:f3 M=(.row 77 7 0 true [.num 0,.num 0,.num 0,.num 0,.bg,.bg,.bg] (.cf (bI [Q u.c,Q u.z,Q u.q,Q u.l,.ptr a.X 0,.ptr a.aEU 0,.ptr a.aEW 0]))):=S3.H.aM.obj;simp only[go_sem,he3, ↓ag 52];apply(eF e3 _ f3 m3).bu;rintro v g1 E ⟨rfl,qz⟩;have Z1:=S3.gr qz;have y0:=Z1.a0;have y1:=Z1.a1;unfold rep at bad ⊢;refine zS ?_;exact bad e3 _ f3 m3 _ _ S3 rfl rfl rfl rfl rfl (.inl ⟨rfl,rfl⟩) _ _ (pT qz)
 rw[zy] at YH UA;have S3:=S2.RC q3 (λc h=>.inl h) I (s':={s with b:={s.b with pu:=dE s.b.pu (s.tl (hP A)) l}}) (a':={a with t:=ta2,b:={a.b with l:=l',ck:=ck}}) ⟨hS2.aM.ah q3 I,UA,hS2.t.ah q3 W I,hS2.p.ah q3 W⟩;have d0:=S3.a0;have d1:=S3.a1;have LP:f3 M=(.row 77 7 0 true [.num 0,.num 0,.num 0,.num 0,.bg,.bg,.bg] (.cf (bI [Q u.c,Q u.z,Q u.q,Q u.l,.ptr a.X 0,.ptr a.aEU 0,.ptr a.aEW 0]))):=S3.H.aM.obj;simp only[go_sem,d0,LP, ↓ag 143];apply(a6N S3.H.t A hA hr (ch:Nat) (EW _ hto)).bu;rintro v f4 m4 ⟨e4,rfl,cS,⟨ta4,hT4⟩,q4⟩;have S4:=S3.RC q4 z54 I (Hr S3.H q4 hT4);have g0:=S4.a0;have g1':=S4.a1;have hM4:f4 M=(.row 77 7 0 true [.num 0,.num 0,.num 0,.num 0,.bg,.bg,.bg] (.cf (bI [Q u.c,Q u.z,Q u.q,Q u.l,.ptr a.X 0,.ptr a.aEU 0,.ptr a.aEW 0]))):=S4.H.aM.obj;by_cases c4:e4=0
 case neg=>simp only[go_sem,c4, ↓ag 52];apply(eF e4 _ f4 m4).bu;rintro v g1 E ⟨rfl,qz⟩;have Z1:=S4.gr qz;have y0:=Z1.a0;have y1:=Z1.a1;unfold rep at bad ⊢;refine zS ?_;exact bad e4 _ f4 m4 _ _ S4 rfl rfl rfl rfl rfl (.inr ⟨ch,l,Dm,hto,YH,rfl,.inl (aj c4)⟩) _ _ (pT qz)
 rw[ao c4] at hT4;have S4:=S3.RC q4 z54 I (Hr S3.H q4 hT4);rw[c4];simp only[go_sem,g0,hM4, ↓ag 141];apply(SQ S4.H.t A hA hr aF1 C u.z hC).bu;rintro v f5 m5 ⟨i5,at5,e5,rfl,hi5,fQ,⟨ta5,hT5⟩,q5⟩;have S5:=S4.RC q5 z54 I (Hr S4.H q5 hT5);have k0:=S5.a0;have k1:=S5.a1;have hM5:f5 M=(.row 77 7 0 true [.num 0,.num 0,.num 0,.num 0,.bg,.bg,.bg] (.cf (bI [Q u.c,Q u.z,Q u.q,Q u.l,.ptr a.X 0,.ptr a.aEU 0,.ptr a.aEW 0]))):=S5.H.aM.obj;have aqm:gY fQ f5 m5 a.aEW Kp s.S a.p:=S5.H.p;obtain⟨b5,ab5,hb5,ayP,ayT,azx,ad9⟩:∃(b5:Bs) (ab5:nC),b5.n=s.b.n/\b5.ph=s.b.ph/\b5.ow=s.b.ow/\b5.ge=s.b.ge/\cY fQ f5 m5 a.X b5 aEY N d ab5:=⟨{s.b with pu:=dE s.b.pu (s.tl (hP A)) l},{a.b with l:=l',ck:=ck},rfl,rfl,rfl,rfl,S5.H.b⟩;rw[←hb5] at hpg hpu aia;have apg:∀x∈dE s.tp (hP A) (s.tp (hP A)++ [(ch:Int)]) (hP A),∃i:Nat,x=i/\i<b5.n:=λx hx=>by
  rw[cj] at hx;rcases fJ.1 hx with hx|hx
  .exact hpg _ hto x hx
  .exact ⟨ch,rY.1 hx,hpu _ ch (by rw[YH];exact ko ..)⟩
 by_cases cf:e5=0
 case neg=>simp only[go_sem,cf, ↓ag 52];apply(eF e5 _ f5 m5).bu;rintro v g1 E ⟨rfl,qz⟩;have Z1:=S5.gr qz;have y0:=Z1.a0;have y1:=Z1.a1;unfold rep at bad ⊢;refine zS ?_;exact bad e5 _ f5 m5 _ _ S5 rfl rfl rfl rfl rfl (.inr ⟨ch,l,Dm,hto,YH,rfl,.inr rfl⟩) _ _ (pT qz)
 obtain⟨ii,hii,QT⟩:=apg _ (hi5 cf);subst hii;have P:=λR L k=>nS (R:=R) ad9 L k;have nMz:M≠m5:=by have:=S5.H.aM.lt;omega
 have lz:=S5.l;have nmz:m≠m5:=Z;have n1z:pl m 1≠m5:=W;simp only[go_sem,hM5,P,cf, ↓ag 68];apply(vT ad9.re.st ii QT _).bu;rintro v g1 E ⟨rfl,qz⟩;have Z1:=S5.gr qz;have y0:=Z1.a0;have y1:=Z1.a1;have lMz:M<m5:=S5.H.aM.lt;have yM:=(qz.ah M lMz).trans hM5;have nMw:M≠E:=Zt;have lw:=Z1.l;have nmw:m≠E:=Z;have n1w:pl m 1≠E:=W;have hBz:=ad9.gr qz;have hS1:=λR L k=>nS (R:=R) hBz L k;simp only[go_sem,y0,yM,nMw,nmw, ↓ag 145];refine aP ?_;intro g2 xm;have qy:B g1 E g2 (pl E 1):=Wg;have Z2:=Z1.gr qy;have az:g2 E=(.row 151 3 0 true [.num 0,.num 0,.num 0] (.cf (laid 0 [Q (b5.ph ii),Q (b5.ow ii),Q (b5.ge ii)] (zf [.num 0,.num 0,.num 0])))):=Xz;apply(TG ((aqm.gr qz).gr qy) hKp ii Z (b5.ge ii) A at5 aF1 hA).bu;rintro v g3 w3 ⟨nn,e3,rfl,hnn,g,S',⟨pa3,hP3⟩,he3,zx,qx⟩;have oz:fQ E=0:=Z1.H.b.z E (bP _);have zV:¬PV 0:=W;have Z3:=Z2.RC (Kp':=Kp+1) qx (λc h=>.inr (.inr h)) zV (s':={({s with b:={s.b with pu:=dE s.b.pu (s.tl (hP A)) l},tp:=dE s.tp (hP A) (s.tp (hP A)++ [(ch:Int)])}:Ms) with S:=S'}) (a':={({a with t:=ta5,b:={a.b with l:=l',ck:=ck}}:mS) with p:=pa3}) ⟨Z2.H.aM.ah qx W,Z2.H.b.ah qx W,Z2.H.t.ah qx W W,hP3⟩;have x0:=Z3.a0;have x1:=Z3.a1;have lMw:M<pl E 1:=Z2.H.aM.lt;have oM:fQ M=9:=S5.H.aM.own;have xM:=(qx.ah M lMw Zu).trans ((qy.ah M (bW lMz qz.le)).trans yM);have az3:=(qx.ah E W (by rw[oz];exact zV)).trans az;simp only[go_sem, ↓ag 130];apply(jx nn e3 _ g3 w3).bu;rintro v g4 w4 ⟨rfl,qw⟩;have Z4:=Z3.gr qw;have v0:=Z4.a0;have v1:=Z4.a1;have vM:=(qw.ah M (bW lMw qx.le)).trans xM;have az4:=(qw.ah E F7).trans az3;by_cases cg:e3=0
 case pos=>rw[ao cg];unfold a5V rep at hk;unfold rep;refine zS ?_;exact hk _ _ _ ⟨0,nn,g,g3,w3,_,_,Kp+1,rfl,hnn,λh=>absurd rfl h,bP _,Z3.H,Z3.fr,Z3.o1,pT qw,rfl,rfl,rfl,rfl,.inr ⟨ch,l,Dm,hto,YH,rfl,.inr rfl⟩⟩
 case neg=>rw[aj cg];unfold a5V rep at hk;unfold rep;refine zS ?_;exact hk _ _ _ ⟨e3,0,g,g3,w3,_,_,Kp+1,rfl,Z,λ_=>⟨rfl,(he3 cg).2⟩,bP _,Z3.H,Z3.fr,Z3.o1,pT qw,rfl,rfl,rfl,rfl,.inr ⟨ch,l,Dm,hto,YH,rfl,.inr rfl⟩⟩
end
def a1E(x:Int):Option V:=if(14:Int)=x then some (.agg [.fn 92 [] []]) else if(13:Int)=x then some (.agg [.fn 91 [] []]) else if(12:Int)=x then some (.agg [.fn 90 [] []]) else if(11:Int)=x then some (.agg [.fn 89 [] []]) else if(10:Int)=x then some (.agg [.fn 88 [] []]) else if(9:Int)=x then some (.agg [.fn 87 [] []]) else if(8:Int)=x then some (.agg [.fn 86 [] []]) else if(7:Int)=x then some (.agg [.fn 85 [] []]) else if(6:Int)=x then some (.agg [.fn 84 [] []]) else if(5:Int)=x then some (.agg [.fn 83 [] []]) else if(4:Int)=x then some (.agg [.fn 82 [] []]) else if(3:Int)=x then some (.agg [.fn 81 [] []]) else if(2:Int)=x then some (.agg [.fn 80 [] []]) else if(1:Int)=x then some (.agg [.fn 79 [] []]) else none
def EI(R:Rt)(f)(m:Nat):Cl R.Y 53 [] f m (λv y L=>v= .map m/\(∃l c,y m= .map (enc l) c/\∀x,cC l x=a1E x)/\B f m y L/\m<L):=by
 intro k S E;refine cUx func53 ?_;refine zS ?_;rw[a8Y];refine zS ?_;refine fG ?_;intro H e;refine E _ _ _ ⟨rfl,⟨_,_,R5,λx=>?_⟩,?_,W⟩
 .simp only[dR];rfl
 .rw [e];exact(B.w (m2:=m) Qc E1)
section
variable {own:aG} {f:av} {m M aEY N d Kp:Nat} {u:Su} {s:Ms} {a:mS}
def a3q{R:Rt}(H:eA own f m M u s aEY N d Kp a)(k A aF1 C:Int)(t)(fid:Nat)(E:a1E k=some (.agg [.fn fid [] []]))(hck:eW K fid=iM fid)(aEV:V->av->dF)
  (hc:∀F p,B f m F p->m+2<=p->Cl R.Y fid [.ptr M 0,lY k A aF1 C t] F p (λv y L=>aEV v y L/\(∃(e n:Int) (w:V) (x:aI),v=rep e n w x/\(w= .au\/∃b o c cp,w= .sl b o c cp))/\∃bo P,Fr P own F p bo y L/\¬P 0/\¬P 9)):
  Cl R.Y.Y 32 [.ptr M 0,lY k A aF1 C t] f m (λv y L=>∃(r:av) (m1:Nat),aEV v r m1/\kR r m1 y L (pl m 1)):=by
 intro kk S hk;unfold lY;have hM:=H.aM.obj;have n0:M≠m:=O3;have n1:M≠pl m 1:=J8;have nm:m≠pl m 1:=W;refine cUx func32 ?_;simp only[go_sem,hM,n0,n1,nm, ↓ag 53];refine aP ?_;intro F j;have q0:B f m F (pl m 3):=Vu;have n02:m≠pl m 2:=W;have n12:pl m 1≠pl m 2:=W;have h:F m=(.row 60 5 0 true [.num 0,.num 0,.num 0,.num 0,.str []] (.cf (bI [Q k,Q A,Q aF1,Q C,.str t]))):=Q0;have a1:F (pl m 1)=(.row 54 4 0 true [.num 0,.num 0,.au,.str []] (.cf (zf [.num 0,.num 0,.au,.str []]))):=C0;have i:F (pl m 2)=(.row 157 1 0 true [.fN] (.cf (zf [.fN]))):=J3;have om:own m=0:=H.b.z m Z;have xR:own (pl m 1)=0:=H.b.z _ W;have om2:own (pl m 2)=0:=H.b.z _ W;apply(EI _ F (pl m 3)).bu;rintro v r m1 ⟨rfl,⟨l,ck,acS,bL⟩,q1,lm⟩;have hg:=(bL k).trans E;have l1:=q1.le;unfold pl at l1;have b0:=(q1.ah m W).trans h;have b1:=(q1.ah (pl m 1) W).trans a1;have b2:=(q1.ah (pl m 2) W).trans i;have n23:pl m 2≠pl m 3:=W;have n13:pl m 1≠pl m 3:=W;have n03:m≠pl m 3:=W;simp only[go_sem,b0,b2,acS,hg,n02,hck, ↓ag fid];refine aP ?_;intro F2 g;have II:B f m F2 m1:=by rw[g];exact(q0.trans q1).bw W
 have c0:F2 m=_:=(congrFun g m).trans ((aE n02 _ _).trans b0);have c1:F2 (pl m 1)=_:=(congrFun g _).trans ((aE n12 _ _).trans b1);have c2:=(congrFun g (pl m 2)).trans (aK ..);apply(hc F2 m1 II Z).bu;rintro v f3 m3 ⟨hq,⟨e,n,w,x,rfl,hw⟩,bo,P,q3,p0,p9⟩;have d0:=(q3.ah m Z W).trans c0;have d1:=(q3.ah (pl m 1) W W).trans c1;have d2:=(q3.ah (pl m 2) G W).trans c2;have w1:∀q,V.live w q=q w:=λq=>J9;have w2:∀q d,V.bt w q d=q w:=λq d=>J9;have w3:∀q,V.one w q=q w:=λq=>J9;have K0:∀a b c d z,laid 0 [a,b,c,d] z 0=a:=λ_ _ _ _ _=>rfl;have K1:∀a b c d z,laid 0 [a,b,c,d] z 1=b:=λ_ _ _ _ _=>rfl;have K2:∀a b c d z,laid 0 [a,b,c,d] z 2=c:=λ_ _ _ _ _=>rfl;have K3:∀a b c d z,laid 0 [a,b,c,d] z 3=d:=λ_ _ _ _ _=>rfl;unfold rep;refine zS ?_;exact hk _ _ _ ⟨f3,m3,hq,⟨Z,λx hx hn=>aE hn ..⟩⟩
def a7X{R:Rt}(H:eA own f m M u s aEY N d Kp a)(k A aF1 C:Int)(t)(hk0:a1E k=none):
  Cl R.Y.Y 32 [.ptr M 0,lY k A aF1 C t] f m (λv y L=>v=rep 1 0 .au []/\B f m y L):=by
 intro kk S E;unfold lY;have hM:=H.aM.obj;have n0:M≠m:=O3;have n1:M≠pl m 1:=J8;have x:m≠pl m 1:=W;refine cUx func32 ?_;simp only[go_sem,hM,n0,n1,x, ↓ag 53];refine aP ?_;intro F j;have q0:B f m F (pl m 3):=Vu;have n02:m≠pl m 2:=W;have e:pl m 1≠pl m 2:=W;have h:F m=(.row 60 5 0 true [.num 0,.num 0,.num 0,.num 0,.str []] (.cf (bI [Q k,Q A,Q aF1,Q C,.str t]))):=Q0;have a1:F (pl m 1)=(.row 54 4 0 true [.num 0,.num 0,.au,.str []] (.cf (zf [.num 0,.num 0,.au,.str []]))):=by rw[j,aE e];exact aK ..
 have i:F (pl m 2)=(.row 157 1 0 true [.fN] (.cf (zf [.fN]))):=J3;apply(EI _ F (pl m 3)).bu;rintro v r m1 ⟨rfl,⟨l,ck,acS,bL⟩,P,lm⟩;have hg:=(bL k).trans hk0;have l1:=P.le;unfold pl at l1;have o:=(P.ah m W).trans h;have b1:=(P.ah (pl m 1) W).trans a1;have b2:=(P.ah (pl m 2) W).trans i;have K0:∀a b c d z,laid 0 [a,b,c,d] z 0=a:=λ_ _ _ _ _=>rfl;have K1:∀a b c d z,laid 0 [a,b,c,d] z 1=b:=λ_ _ _ _ _=>rfl;have q:∀a b c d z,laid 0 [a,b,c,d] z 2=c:=λ_ _ _ _ _=>rfl;have K3:∀a b c d z,laid 0 [a,b,c,d] z 3=d:=λ_ _ _ _ _=>rfl;have n23:pl m 2≠pl m 3:=W;have n03:m≠pl m 3:=W;simp only[go_sem,o,b2,acS,hg, ↓ag 52];refine aP ?_;intro n g;have II:B f m n m1:=by rw[g];exact(q0.trans P).bw W
 have c1:=(congrFun g (pl m 1)).trans ((aE e _ _).trans b1);apply(eF 1 _ n m1).bu;rintro v f3 m3 ⟨rfl,p⟩;have d1:=(p.ah (pl m 1) W).trans c1;unfold rep at E ⊢;refine zS ?_;exact E _ _ _ ⟨rfl,(II.trans p).bw W⟩
end
section
variable {f:av} {m:Nat} {v w:V}
def tG{xs:dC}(h:ll f m v xs):(∀q,V.live v q=q v)/\(∀q d,V.bt v q d=q v)/\(∀q,V.one v q=q v)/\(∀q,V.cells v q=q [v]):=by rcases h with⟨rfl,_⟩|⟨_,_,_,_,_,_,_,_,rfl,_⟩<;>exact⟨λ_=>rfl,λ_ _=>rfl,λ_=>rfl,λ_=>rfl⟩
def Ed{xs:dC}(A:ll f m v xs)(N:ll f m w xs)(hl:xs.length<=100000)(R:Rt)(M:Nat)(k):R.Y.call 27 [v,w] (.fn f M) k=k (.bool true) (.fn f M):=by
 obtain⟨S,hT⟩:∃S,k (.bool true) (.fn f M)=S:=W;rw[hT];obtain⟨t1,t2,t3,t4⟩:=tG A;obtain⟨s1,s2,s3,s4⟩:=tG N;have ln1:=λq=>A.jD Z q;have ln2:=λq=>N.jD Z q;refine cUx func27 ?_;refine zS ?_;refine cU (x:=.exit 0) (n:=xs.length+1) (aF0:=λrem e y L=>∃i:Nat,i+rem=xs.length+1/\1<=rem/\y=f/\L=M/\(eg 0).get e=v/\(eg 1).get e=w/\(eg 5).get e=Q i) (E:=λe y L=>y=f/\L=M) ?_ J2 ?_ ?_
 .exact ⟨0,Z,Z,rfl,rfl,E6,E6,E6⟩
 .rintro rem e y L ⟨i,Uu,Hy,rfl,rfl,c,u,r⟩ rr j C hE;unfold iB;by_cases F:i<xs.length
  case neg=>have yX:¬((i:Int)<(xs.length:Nat)):=Z;simp only[go_sem,c,r,t1,ln1,yX];grind
  have yX:((i:Int)<(xs.length:Nat)):=Z;have ew:IntKind.i64.wrap ((i:Int)+1)=((i+1:Nat):Int):=Qf;obtain⟨b,o,cp,mm,t,w',P,g,rfl,s,H,nz,p⟩:=A.at F;obtain⟨d,o2,l,mm2,fz2,w2',zs2,z,rfl,LO,h,a,xm⟩:=N.at F;refine zS ?_;exact C (rem-1) _ _ _ Z ⟨i+1,Z,Z,rfl,rfl,E6,E6,E6⟩
 .rintro e y L ⟨rfl,rfl⟩;simp only[go_sem];trivial
end
end
end Go.Ev.Sy
namespace Go.Ev.Sy
open Go Go.Ev Go.Proofs
noncomputable section
variable{t u:Nat}{xs:ay}
def EqS(d t:Nat)(v:V):Prop:=∀q,(mF K d t).run v v q=q true
def UH(h:ly u Dl=true)(a:Int)(d:Nat):EqS (d+1) u (Q a):=by
 obtain⟨S,A,N⟩:=cz h;unfold Dl at N;intro q;split at N
 .rename_i f;rw[mF,A];simp only[f];have:=Cg a a q;rw[mZ rfl] at this;trivial
 trivial
def a8Q(d : Nat) : ∀ l : List Field, (∀ f ∈ l, decide (f.name = "_") = false) -> (∀ f ∈ l, ∃ j u, K.ty f.type = some j /\ (∀ c, mu (iC j.desc) j.sz xs f.offset c = c u) /\ EqS d f.type u) ->
  ∀ q, (cE (⟨λ_ _ q => q true⟩ : NG) (λf _ r => match decide (f.name = "_"), K.ty f.type with
      |false,some j=>ka (mF K d f.type) (iC j.desc) j.sz f.offset r
      |_,_=>yo) l).run xs xs q=q true:=by
 intro l
 induction l with
 |nil=>exact λ_ _ q=>rfl
 |cons f l H=>intro a h q;have s:=H (λg p=>a g (ia _ p)) (λg p=>h g (ia _ p));obtain⟨j,u,A,N,M⟩:=h f W;rw[ga];simp only[a f W,A];show mu (iC j.desc) j.sz xs f.offset (λx=>mu (iC j.desc) j.sz xs f.offset (λy=>(mF K d f.type).run x y _))=_;rw[N,N,M];exact s q
def a4T{T:TI}{l:Array Field}(A : K.ty t = some T)(hd : T.desc = .struct l)(M : T.yE = false)(hn : ∀ f ∈ l.toList, decide (f.name = "_") = false)(d : Nat)(xs)(h : ∀ f ∈ l.toList, ∃ j u, K.ty f.type = some j /\ (∀ c, mu (iC j.desc) j.sz xs f.offset c = c u) /\ EqS d f.type u) : EqS (d + 1) t (.agg xs) := λq =>(ajp A hd M d xs xs q).trans (a8Q d l.toList hn h q)
end
end Go.Ev.Sy
