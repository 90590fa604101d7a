import Derived.Test.YthpffinbkpnniaaGreatDoorM23
import Derived.Below
import Derived.Lib.SlKeysI
import Derived.Maps.Own
set_option linter.all false
set_option maxRecDepth 100000
section
open Go Go.Ev
def KM : (Go.Proofs.Tryz.prog.funcs.toList.all λfn => !(fn.name == "runtime.NumGoroutine")) = true := E7
def KS:Go.Proofs.Tryz.prog.follows .mixedOrders=true:=E7
def Oy:iT Go.Proofs.Tryz.prog exts glk drT 400 7 [] (λv _=>isTrue v)=true:=E7
end
namespace Go.Ev.Sy
open Go Go.Ev Go.Proofs
open Tryz
noncomputable section
variable{c:Nat}{y:av}
@[go_sem]def aaW(x l):rK (.str x::l)=rK l:=propext ⟨λh u L=>h u W,λh u L=>by rcases fY.1 L with rfl|L;exact yp x;exact h u L⟩
structure HOk(own:aG)(f:av)(m h M:Nat)(xs:dC)(nc nr:Nat):Prop where
 aH:∃vn vc vr cs rs,At own 71 f m h (.row 41 4 0 true [.bg,.au,.au,.au] (.cf (bI [.ptr M 0,vn,vc,vr])))/\bS own 72 f m 3 1 vn xs.length (xs.map λ(x:Int)=>Q x)/\bS own 73 f m 3 1 vc nc cs/\bS own 74 f m 88 2 vr nr rs
 xb:∀x∈xs,x<=9223372036854775807
@[grind] def PH(c:Nat):Prop:=71<=c/\c<=74
@[grind] def xq(c:Nat):Prop:=c=0\/PH c
@[grind] def qj(c:Nat):Prop:=c≠0/\c≠9
section
variable {own:aG} {f:av} {m h M nc nr:Nat} {xs:dC}
def HOk.ah{t:aG}{L:Nat}{P:dF}(H:HOk own f m h M xs nc nr)(q:Fr P own f m t y L)(g:∀c,PH c->¬P c):HOk t y L h M xs nc nr:=by obtain⟨b,j,d,e,a,A,N,i,u⟩:=H.aH;exact⟨⟨b,j,d,e,a,A.ah q (g _ G),N.ah q (g _ G),i.ah q (g _ G),u.ah q (g _ G)⟩,H.xb⟩
def agW(h:c=71):qj c:=W
set_option maxHeartbeats 1000000 in
def aqb{R:Rt}(H:HOk own f m h M xs nc nr)(hz:∀x,m<=x->own x=0)(hx:xs.length<=1000)(hnc:nc<=1000)(hnr:nr<=1000)(k A aF1 C:Int)(t)(r:Int)(aEV:V->aG->av->dF)
  (hc:∀F M' A',B f m F M'->(A'=A\/A'∈xs)->Cl R.Y 32 [.ptr M 0,lY k A' aF1 C t] F M' (λv f' m'=>∃(e n:Int) (w:V) (x:aI) (bo:aG),v=rep e n w x/\a0s w/\n<=9223372036854775807/\Fr PDo own F M' bo f' m'/\aEV v bo f' m'))
  (hQ:∀v bX f1 l dm f2 m2,aEV v bX f1 l->Fr xq bX f1 l dm f2 m2->aEV v dm f2 m2):
  Cl R.Y.Y 15 [.ptr h 0,opL k A aF1 C t r] f m (λv f' m'=>∃bo xs' nc' nr',aEV v bo f' m'/\HOk bo f' m' h M xs' nc' nr'/\xs'.length<=xs.length+1/\nc'<=nc+1/\nr'<=nr+1/\Fr qj own f m bo f' m'):=by
 intro kk T E;obtain⟨vn,vc,vr,cs,rs,aH,hn,zy,lR⟩:=H.aH;have oH:=aH.obj;have aH0:=aH.own;unfold opL;have n0:h≠m:=by have:=aH.lt;omega
 have n1:h≠pl m 1:=Xl;have n2:h≠pl m 2:=Xl;have nm:m≠pl m 1:=W;refine cUx func15 ?_;simp only[go_sem,oH,n0,n1,n2,nm,hn.live,hn.bt,hn.tR, ↓ag 31];refine aP ?_;intro F j;have l5:=aH.lt;have qF:B f m F (pl m 3):=Wb;have n02:m≠pl m 2:=W;have n12:pl m 1≠pl m 2:=W;have a2:F (pl m 2)=(.row 60 5 0 true [.num 0,.num 0,.num 0,.num 0,.str []] (.cf (zf [.num 0,.num 0,.num 0,.num 0,.str []]))):=J3;have a1:F (pl m 1)=(.row 54 4 0 true [.num 0,.num 0,.au,.str []] (.cf (zf [.num 0,.num 0,.au,.str []]))):=Q0;refine(a3L (hn.ah (qF.fr own (λ_=>False)) id).toZ hx k A aF1 C t r).bu ?_;rintro u f1 l ⟨⟨A',rfl,hA'⟩,q1⟩;have b1:=(q1.ah _ W).trans a1;have b2:=(q1.ah _ W).trans a2;have bH:=(((aH.ah (qF.fr own (λ_=>False)) id).ah (q1.fr own (λ_=>False)) id)).obj;have l1:=q1.le;unfold pl at l1;have n2m:pl m 2≠l:=W;have Nx:h≠l:=Z;unfold lY;simp only[go_sem,b2,bH,n2,n2m,Nx, ↓ag 32];refine aP ?_;intro F2 xo;have q12:=qF.trans q1;have o:B f m F2 (pl l 1):=by rw[xo];exact(B.w (m2:=l) (by repeat (first|exact q12|refine B.bw ?_ V6)) V6)
 have n1m:pl m 1≠l:=W;have c1:F2 (pl m 1)=_:=(congrFun xo _).trans ((aE n1m ..).trans ((aE n12 ..).trans b1));have c2:F2 (pl m 2)=_:=(congrFun xo _).trans ((aE n2m ..).trans (aK ..));have c3:F2 l=_:=(congrFun xo _).trans (aK ..);apply(hc F2 (pl l 1) A' o hA').bu;rintro v f3 s ⟨e,n,w,x,g,rfl,hw,hn9,q3,Rv⟩;have H3:=(H.ah (o.fr own (λ_=>False)) (λ_ _=>id)).ah q3 W;have oz3:∀y,m<=y->y<pl l 1->g y=0:=λy h1 h2=>(q3.same y h2).trans (hz y h1);have om:∀y,m<=y->¬PDo (own y):=λy p=>by rw[hz y p];exact abK
 have ZU:=(q3.ah (pl m 1) W (om _ W)).trans c1;have ZT:=(q3.ah (pl m 2) W (om _ W)).trans c2;have ZS:=(q3.ah l W (om _ Z)).trans c3;have l3:=q3.le;have w1:∀q,V.live w q=q w:=λq=>J9;have w2:∀q d,V.bt w q d=q w:=λq d=>J9;have w3:∀q,V.one w q=q w:=λq=>J9;clear aH hn zy lR oH;obtain⟨IE,zK,zJ,cs3,rs3,Dr,DK,Uy,Uo⟩:=H3.aH;have oH3:=Dr.obj;have lh:=l5;have qB3:Fr qj own f m g f3 s:=(o.fr own qj).trans q3 (λ_ h=>h) W;have qQ3:Fr xq g f3 s g f3 s:=Fr.refl _ _ _ _;have xb3:=H.xb;have ao2:own h=71:=aH0;have P0:∀a b c d e z,laid 0 [a,b,c,d,e] z 0=a:=λ_ _ _ _ _ _=>rfl;have P1:∀a b c d e z,laid 0 [a,b,c,d,e] z 1=b:=λ_ _ _ _ _ _=>rfl;unfold rep at Rv ⊢;have XF:h≠s:=E2;have XI:l≠s:=E2;have axV:pl m 1≠s:=E2;have ahk:pl m 2≠s:=E2;refine(kf (0<n)).elim (λcn=>?P) (λcn=>?N)
 case N=>
  refine(kf (e=0)).elim (λce=>?NE) (λce=>?NF)
  case NF=>
   refine zS ?_;refine fG ?_;intro aEZ hG;have qG:Fr (λc=>c=0\/c=71) g f3 s g aEZ s:=by
    rw[hG];refine Fr.w (m2:=s) ?_ E1
    repeat (first|exact Fr.refl _ _ _ _|refine Fr.bw ?_ Qh)
   have GC:Fr qj own f m g aEZ s:=by
    rw[hG];refine Fr.w (m2:=s) ?_ E1
    repeat (first|exact qB3|refine Fr.bw ?_ Qg)
   have GA:Fr xq g f3 s g aEZ s:=qQ3.trans qG (λ_ h=>h) W;have HX:aEZ h=(.row 41 4 0 true [.bg,.au,.au,.au] (.cf (bI [.ptr M 0,IE,zK,zJ]))):=X6;refine E _ _ _ ⟨g,xs,nc,nr,hQ _ _ _ _ _ _ _ Rv GA,⟨⟨_,_,_,_,_,⟨HX,Dr.own,Dr.lt⟩,DK.ah qG I,Uy.ah qG I,Uo.ah qG I⟩,xb3⟩,gC _,gC _,gC _,GC⟩
  subst ce;refine(kf (k=1)).elim (λk1=>?N1) (λk1=>?N2)
  case N1=>
   subst k1;simp only[go_sem,XF,XI,ZU,ZT,ZS,oH3,n2m,Nx,n1m,w2,Uy.bt,Uy.tR,cn];refine gE ?_;intro F4 Dq;have oS:Fr (λc=>c=0\/c=71) g f3 s g F4 (pl s 1):=by
    rw[Dq];refine Fr.w (m2:=s) ?_ E1
    repeat (first|exact Fr.refl _ _ _ _|refine Fr.bw ?_ Qh)
   have Bw:Fr qj own f m g F4 (pl s 1):=by
    rw[Dq];refine Fr.w (m2:=s) ?_ E1
    repeat (first|exact qB3|refine Fr.bw ?_ Qg)
   have Bv:Fr xq g f3 s g F4 (pl s 1):=qQ3.trans oS (λ_ h=>h) W;have CE:F4 (pl m 1)=(.row 54 4 0 true [.num 0,.num 0,.au,.str []] (.cf (zf [.num 0,.num 0,.au,.str []]))):=O5;have CD:F4 (pl m 2)=(.row 60 5 0 true [.num 0,.num 0,.num 0,.num 0,.str []] (.cf (laid 0 [Q 1,Q A',Q aF1,Q C,.str t] (zf [.num 0,.num 0,.num 0,.num 0,.str []])))):=O5;have CB:F4 l=(.row 54 4 0 true [.num 0,.num 0,.au,.str []] (.cf (laid 0 [Q 0,Q n,w,.str x] (zf [.num 0,.num 0,.au,.str []])))):=O5;have CA:F4 h=(.row 41 4 0 true [.bg,.au,.au,.au] (.cf (bI [.ptr M 0,IE,zK,zJ]))):=O5;refine dv (Uy.ah oS I) (n':=1) rfl (λu L=>J4) Z Z ?_;intro v4 cS f4 m4 NA i;have lq4:=i.le;have lF4:=oS.le;have Av:At cS 71 f4 m4 h (.row 41 4 0 true [.bg,.au,.au,.au] (.cf (bI [.ptr M 0,IE,zK,zJ]))):=(⟨CA,Dr.own,bW Dr.lt oS.le⟩:At g 71 F4 (pl s 1) h _).ah i I;have oH4:=Av.obj;have Uq:=(DK.ah oS I).ah i I;have Un:=(Uo.ah oS I).ah i I;have zE:=(i.ah (pl m 1) E2 Qm).trans CE;have DQ:=(i.ah (pl m 2) E2 Qm).trans CD;have zD:=(i.ah l E2 Qm).trans CB;have oz4:∀y,m<=y->y<pl l 1->cS y=0:=λy h1 h2=>(i.same y E2).trans (oz3 y h1 h2);have qB4:Fr qj own f m cS f4 m4:=Bw.trans i (λ_ h=>h) W;have qQ4:Fr xq g f3 s cS f4 m4:=Bv.trans i (λ_ h=>h) W;have Py:h≠m4:=E2;have KN:l≠m4:=E2;have XG:pl m 1≠m4:=E2;have PC:pl m 2≠m4:=E2;simp only[go_sem,zE,DQ,zD,oH4,Nx.symm,n1.symm,n2.symm,w2,NA.one];refine fG ?_;intro aEZ hG;have qG:Fr (λc=>c=0\/c=71) cS f4 m4 cS aEZ m4:=by
    rw[hG];refine Fr.w (m2:=m4) ?_ E1
    repeat (first|exact Fr.refl _ _ _ _|refine Fr.bw ?_ Qj)
   have GC:Fr qj own f m cS aEZ m4:=by
    rw[hG];refine Fr.w (m2:=m4) ?_ E1
    repeat (first|exact qB4|refine Fr.bw ?_ Qg)
   have GA:Fr xq g f3 s cS aEZ m4:=qQ4.trans qG (λ_ h=>h) W;have HX:aEZ h=(.row 41 4 0 true [.bg,.au,.au,.au] (.cf (bI [.ptr M 0,IE,v4,zJ]))):=X6;refine E _ _ _ ⟨cS,xs,nc+1,nr,hQ _ _ _ _ _ _ _ Rv GA,⟨⟨_,_,_,_,_,⟨HX,Av.own,Av.lt⟩,Uq.ah qG I,NA.ah qG I,Un.ah qG I⟩,xb3⟩,gC _,bP _,gC _,GC⟩
  refine(kf (k=5)).elim (λk5=>?N5) (λk5=>?N6)
  case N5=>
   subst k5;simp only[go_sem,XF,XI,ahk,ZU,ZT,ZS,oH3,n2m,Nx,n1m,w2,Uo.bt,Uo.tR,cn];refine gE ?_;intro F4 Dq;have oS:Fr (λc=>c=0\/c=71) g f3 s g F4 (pl s 1):=by
    rw[Dq];refine Fr.w (m2:=s) ?_ E1
    repeat (first|exact Fr.refl _ _ _ _|refine Fr.bw ?_ Qh)
   have Bw:Fr qj own f m g F4 (pl s 1):=by
    rw[Dq];refine Fr.w (m2:=s) ?_ E1
    repeat (first|exact qB3|refine Fr.bw ?_ Qg)
   have Bv:Fr xq g f3 s g F4 (pl s 1):=qQ3.trans oS (λ_ h=>h) W;have CE:F4 (pl m 1)=(.row 54 4 0 true [.num 0,.num 0,.au,.str []] (.cf (zf [.num 0,.num 0,.au,.str []]))):=O5;have CD:F4 (pl m 2)=(.row 60 5 0 true [.num 0,.num 0,.num 0,.num 0,.str []] (.cf (laid 0 [Q 5,Q A',Q aF1,Q C,.str t] (zf [.num 0,.num 0,.num 0,.num 0,.str []])))):=O5;have CB:F4 l=(.row 54 4 0 true [.num 0,.num 0,.au,.str []] (.cf (laid 0 [Q 0,Q n,w,.str x] (zf [.num 0,.num 0,.au,.str []])))):=O5;have CA:F4 h=(.row 41 4 0 true [.bg,.au,.au,.au] (.cf (bI [.ptr M 0,IE,zK,zJ]))):=O5;refine dv (Uo.ah oS I) (n':=1) rfl (λu L=>J4) Z Z ?_;intro v4 cS f4 m4 Un i;have lq4:=i.le;have lF4:=oS.le;have Av:At cS 71 f4 m4 h (.row 41 4 0 true [.bg,.au,.au,.au] (.cf (bI [.ptr M 0,IE,zK,zJ]))):=(⟨CA,Dr.own,bW Dr.lt oS.le⟩:At g 71 F4 (pl s 1) h _).ah i I;have oH4:=Av.obj;have Uq:=(DK.ah oS I).ah i I;have NA:=(Uy.ah oS I).ah i I;have zE:=(i.ah (pl m 1) E2 Qm).trans CE;have DQ:=(i.ah (pl m 2) E2 Qm).trans CD;have zD:=(i.ah l E2 Qm).trans CB;have oz4:∀y,m<=y->y<pl l 1->cS y=0:=λy h1 h2=>(i.same y E2).trans (oz3 y h1 h2);have qB4:Fr qj own f m cS f4 m4:=Bw.trans i (λ_ h=>h) W;have qQ4:Fr xq g f3 s cS f4 m4:=Bv.trans i (λ_ h=>h) W;have Py:h≠m4:=E2;have KN:l≠m4:=E2;have XG:pl m 1≠m4:=E2;have PC:pl m 2≠m4:=E2;simp only[go_sem,zE,zD,oH4,Nx.symm,n1.symm,w2,Un.one];refine fG ?_;intro aEZ hG;have qG:Fr (λc=>c=0\/c=71) cS f4 m4 cS aEZ m4:=by
    rw[hG];refine Fr.w (m2:=m4) ?_ E1
    repeat (first|exact Fr.refl _ _ _ _|refine Fr.bw ?_ Qj)
   have GC:Fr qj own f m cS aEZ m4:=by
    rw[hG];refine Fr.w (m2:=m4) ?_ E1
    repeat (first|exact qB4|refine Fr.bw ?_ Qg)
   have GA:Fr xq g f3 s cS aEZ m4:=qQ4.trans qG (λ_ h=>h) W;have HX:aEZ h=(.row 41 4 0 true [.bg,.au,.au,.au] (.cf (bI [.ptr M 0,IE,zK,v4]))):=X6;refine E _ _ _ ⟨cS,xs,nc,nr+1,hQ _ _ _ _ _ _ _ Rv GA,⟨⟨_,_,_,_,_,⟨HX,Av.own,Av.lt⟩,Uq.ah qG I,NA.ah qG I,Un.ah qG I⟩,xb3⟩,gC _,gC _,bP _,GC⟩
  refine zS ?_;refine fG ?_;intro aEZ hG;have qG:Fr (λc=>c=0\/c=71) g f3 s g aEZ s:=by
   rw[hG];refine Fr.w (m2:=s) ?_ E1
   repeat (first|exact Fr.refl _ _ _ _|refine Fr.bw ?_ Qh)
  have GC:Fr qj own f m g aEZ s:=by
   rw[hG];refine Fr.w (m2:=s) ?_ E1
   repeat (first|exact qB3|refine Fr.bw ?_ Qg)
  have GA:Fr xq g f3 s g aEZ s:=qQ3.trans qG (λ_ h=>h) W;have HX:aEZ h=(.row 41 4 0 true [.bg,.au,.au,.au] (.cf (bI [.ptr M 0,IE,zK,zJ]))):=X6;refine E _ _ _ ⟨g,xs,nc,nr,hQ _ _ _ _ _ _ _ Rv GA,⟨⟨_,_,_,_,_,⟨HX,Dr.own,Dr.lt⟩,DK.ah qG I,Uy.ah qG I,Uo.ah qG I⟩,xb3⟩,gC _,gC _,gC _,GC⟩
 refine(kf (k=12)).elim (λk12=>?T) (λk12=>?S)
 case T=>
  subst k12;refine(kf (e=0)).elim (λce=>?TE) (λce=>?TF)
  case TF=>
   refine zS ?_;refine fG ?_;intro aEZ hG;have qG:Fr (λc=>c=0\/c=71) g f3 s g aEZ s:=by
    rw[hG];refine Fr.w (m2:=s) ?_ E1
    repeat (first|exact Fr.refl _ _ _ _|refine Fr.bw ?_ Qh)
   have GC:Fr qj own f m g aEZ s:=by
    rw[hG];refine Fr.w (m2:=s) ?_ E1
    repeat (first|exact qB3|refine Fr.bw ?_ Qg)
   have GA:Fr xq g f3 s g aEZ s:=qQ3.trans qG (λ_ h=>h) W;have HX:aEZ h=(.row 41 4 0 true [.bg,.au,.au,.au] (.cf (bI [.ptr M 0,IE,zK,zJ]))):=X6;refine E _ _ _ ⟨g,xs,nc,nr,hQ _ _ _ _ _ _ _ Rv GA,⟨⟨_,_,_,_,_,⟨HX,Dr.own,Dr.lt⟩,DK.ah qG I,Uy.ah qG I,Uo.ah qG I⟩,xb3⟩,gC _,gC _,gC _,GC⟩
  subst ce;refine zS ?_;refine fG ?_;intro aEZ hG;have qG:Fr (λc=>c=0\/c=71) g f3 s g aEZ s:=by
   rw[hG];refine Fr.w (m2:=s) ?_ E1
   repeat (first|exact Fr.refl _ _ _ _|refine Fr.bw ?_ Qh)
  have GC:Fr qj own f m g aEZ s:=by
   rw[hG];refine Fr.w (m2:=s) ?_ E1
   repeat (first|exact qB3|refine Fr.bw ?_ Qg)
  have GA:Fr xq g f3 s g aEZ s:=qQ3.trans qG (λ_ h=>h) W;have HX:aEZ h=(.row 41 4 0 true [.bg,.au,.au,.au] (.cf (bI [.ptr M 0,IE,zK,zJ]))):=X6;refine E _ _ _ ⟨g,xs,nc,nr,hQ _ _ _ _ _ _ _ Rv GA,⟨⟨_,_,_,_,_,⟨HX,Dr.own,Dr.lt⟩,DK.ah qG I,Uy.ah qG I,Uo.ah qG I⟩,xb3⟩,gC _,gC _,gC _,GC⟩
 refine(kf (e=0)).elim (λce=>?SE) (λce=>?SF)
 case SF=>
  simp only[go_sem,XF,XI,ZU,ZT,ZS,oH3,n2m,Nx,n1m,w2,DK.bt,DK.tR,cn,k12,ce];refine gE ?_;intro F4 Dq;have oS:Fr (λc=>c=0\/c=71) g f3 s g F4 (pl s 1):=by
   rw[Dq];refine Fr.w (m2:=s) ?_ E1
   repeat (first|exact Fr.refl _ _ _ _|refine Fr.bw ?_ Qh)
  have Bw:Fr qj own f m g F4 (pl s 1):=by
   rw[Dq];refine Fr.w (m2:=s) ?_ E1
   repeat (first|exact qB3|refine Fr.bw ?_ Qg)
  have Bv:Fr xq g f3 s g F4 (pl s 1):=qQ3.trans oS (λ_ h=>h) W;have CE:F4 (pl m 1)=(.row 54 4 0 true [.num 0,.num 0,.au,.str []] (.cf (zf [.num 0,.num 0,.au,.str []]))):=O5;have CD:F4 (pl m 2)=(.row 60 5 0 true [.num 0,.num 0,.num 0,.num 0,.str []] (.cf (laid 0 [Q k,Q A',Q aF1,Q C,.str t] (zf [.num 0,.num 0,.num 0,.num 0,.str []])))):=O5;have CB:F4 l=(.row 54 4 0 true [.num 0,.num 0,.au,.str []] (.cf (laid 0 [Q e,Q n,w,.str x] (zf [.num 0,.num 0,.au,.str []])))):=O5;have CA:F4 h=(.row 41 4 0 true [.bg,.au,.au,.au] (.cf (bI [.ptr M 0,IE,zK,zJ]))):=O5;refine dv (DK.ah oS I) (n':=1) rfl (λu L=>J4) Z Z ?_;intro v4 cS f4 m4 Uq i;have lq4:=i.le;have lF4:=oS.le;have Av:At cS 71 f4 m4 h (.row 41 4 0 true [.bg,.au,.au,.au] (.cf (bI [.ptr M 0,IE,zK,zJ]))):=(⟨CA,Dr.own,bW Dr.lt oS.le⟩:At g 71 F4 (pl s 1) h _).ah i I;have oH4:=Av.obj;have NA:=(Uy.ah oS I).ah i I;have Un:=(Uo.ah oS I).ah i I;have zE:=(i.ah (pl m 1) E2 Qm).trans CE;have DQ:=(i.ah (pl m 2) E2 Qm).trans CD;have zD:=(i.ah l E2 Qm).trans CB;have oz4:∀y,m<=y->y<pl l 1->cS y=0:=λy h1 h2=>(i.same y E2).trans (oz3 y h1 h2);have qB4:Fr qj own f m cS f4 m4:=Bw.trans i (λ_ h=>h) W;have qQ4:Fr xq g f3 s cS f4 m4:=Bv.trans i (λ_ h=>h) W;have Py:h≠m4:=E2;have KN:l≠m4:=E2;have XG:pl m 1≠m4:=E2;have PC:pl m 2≠m4:=E2;simp only[go_sem,zE,zD,oH4,Nx.symm,n1.symm,w2,Uq.one,ce];refine fG ?_;intro aEZ hG;have qG:Fr (λc=>c=0\/c=71) cS f4 m4 cS aEZ m4:=by
   rw[hG];refine Fr.w (m2:=m4) ?_ E1
   repeat (first|exact Fr.refl _ _ _ _|refine Fr.bw ?_ Qj)
  have GC:Fr qj own f m cS aEZ m4:=by
   rw[hG];refine Fr.w (m2:=m4) ?_ E1
   repeat (first|exact qB4|refine Fr.bw ?_ Qg)
  have GA:Fr xq g f3 s cS aEZ m4:=qQ4.trans qG (λ_ h=>h) W;have HX:aEZ h=(.row 41 4 0 true [.bg,.au,.au,.au] (.cf (bI [.ptr M 0,v4,zK,zJ]))):=X6;refine E _ _ _ ⟨cS,xs++ [n],nc,nr,hQ _ _ _ _ _ _ _ Rv GA,⟨⟨_,_,_,_,_,⟨HX,Av.own,Av.lt⟩,Vb,NA.ah qG I,Un.ah qG I⟩,λy p=>O9⟩,V3,gC _,gC _,GC⟩
 subst ce;refine(kf (k=1)).elim (λk1=>?S1) (λk1=>?S2)
 case S1=>
  subst k1;simp only[go_sem,XF,XI,ZU,ZT,ZS,oH3,n2m,Nx,n1m,w2,DK.bt,DK.tR,Uy.bt,Uy.tR,cn];refine gE ?_;intro F4 Dq;have oS:Fr (λc=>c=0\/c=71) g f3 s g F4 (pl s 1):=by
   rw[Dq];refine Fr.w (m2:=s) ?_ E1
   repeat (first|exact Fr.refl _ _ _ _|refine Fr.bw ?_ Qh)
  have Bw:Fr qj own f m g F4 (pl s 1):=by
   rw[Dq];refine Fr.w (m2:=s) ?_ E1
   repeat (first|exact qB3|refine Fr.bw ?_ Qg)
  have Bv:Fr xq g f3 s g F4 (pl s 1):=qQ3.trans oS (λ_ h=>h) W;have CE:F4 (pl m 1)=(.row 54 4 0 true [.num 0,.num 0,.au,.str []] (.cf (zf [.num 0,.num 0,.au,.str []]))):=O5;have CD:F4 (pl m 2)=(.row 60 5 0 true [.num 0,.num 0,.num 0,.num 0,.str []] (.cf (laid 0 [Q 1,Q A',Q aF1,Q C,.str t] (zf [.num 0,.num 0,.num 0,.num 0,.str []])))):=O5;have CB:F4 l=(.row 54 4 0 true [.num 0,.num 0,.au,.str []] (.cf (laid 0 [Q 0,Q n,w,.str x] (zf [.num 0,.num 0,.au,.str []])))):=O5;have CA:F4 h=(.row 41 4 0 true [.bg,.au,.au,.au] (.cf (bI [.ptr M 0,IE,zK,zJ]))):=O5;refine dv (DK.ah oS I) (n':=1) rfl (λu L=>J4) Z Z ?_;intro v4 cS f4 m4 Uq i;have lq4:=i.le;have lF4:=oS.le;have Av:At cS 71 f4 m4 h (.row 41 4 0 true [.bg,.au,.au,.au] (.cf (bI [.ptr M 0,IE,zK,zJ]))):=(⟨CA,Dr.own,bW Dr.lt oS.le⟩:At g 71 F4 (pl s 1) h _).ah i I;have oH4:=Av.obj;have NA:=(Uy.ah oS I).ah i I;have Un:=(Uo.ah oS I).ah i I;have zE:=(i.ah (pl m 1) E2 Qm).trans CE;have DQ:=(i.ah (pl m 2) E2 Qm).trans CD;have zD:=(i.ah l E2 Qm).trans CB;have oz4:∀y,m<=y->y<pl l 1->cS y=0:=λy h1 h2=>(i.same y E2).trans (oz3 y h1 h2);have qB4:Fr qj own f m cS f4 m4:=Bw.trans i (λ_ h=>h) W;have qQ4:Fr xq g f3 s cS f4 m4:=Bv.trans i (λ_ h=>h) W;have Py:h≠m4:=E2;have KN:l≠m4:=E2;have XG:pl m 1≠m4:=E2;have PC:pl m 2≠m4:=E2;simp only[go_sem,Py,KN,zE,DQ,zD,oH4,Nx.symm,n1.symm,n2.symm,w2,Uq.one,NA.bt,NA.tR];refine gE ?_;intro F5 hF5;have WJ:Fr (λc=>c=0\/c=71) cS f4 m4 cS F5 (pl m4 1):=by
   rw[hF5];refine Fr.w (m2:=m4) ?_ E1
   repeat (first|exact Fr.refl _ _ _ _|refine Fr.bw ?_ Qj)
  have abC:Fr qj own f m cS F5 (pl m4 1):=by
   rw[hF5];refine Fr.w (m2:=m4) ?_ E1
   repeat (first|exact qB4|refine Fr.bw ?_ Qg)
  have abz:Fr xq g f3 s cS F5 (pl m4 1):=qQ4.trans WJ (λ_ h=>h) W;have adE:F5 (pl m 1)=(.row 54 4 0 true [.num 0,.num 0,.au,.str []] (.cf (zf [.num 0,.num 0,.au,.str []]))):=P9;have adC:F5 (pl m 2)=(.row 60 5 0 true [.num 0,.num 0,.num 0,.num 0,.str []] (.cf (laid 0 [Q 1,Q A',Q aF1,Q C,.str t] (zf [.num 0,.num 0,.num 0,.num 0,.str []])))):=N0;have adB:F5 l=(.row 54 4 0 true [.num 0,.num 0,.au,.str []] (.cf (laid 0 [Q 0,Q n,w,.str x] (zf [.num 0,.num 0,.au,.str []])))):=P7;have adz:F5 h=(.row 41 4 0 true [.bg,.au,.au,.au] (.cf (bI [.ptr M 0,v4,zK,zJ]))):=by rw[hF5];exact zC
  refine dv (NA.ah WJ I) (n':=1) rfl (λu L=>J4) Z Z ?_;intro v5 fQ f5 m5 hc5 q5;have lq5:=q5.le;have lF5:=WJ.le;have aH5:At fQ 71 f5 m5 h (.row 41 4 0 true [.bg,.au,.au,.au] (.cf (bI [.ptr M 0,v4,zK,zJ]))):=(⟨adz,Av.own,bW Av.lt WJ.le⟩:At cS 71 F5 (pl m4 1) h _).ah q5 I;have oH5:=aH5.obj;have hn5:=(Uq.ah WJ I).ah q5 I;have hr5:=(Un.ah WJ I).ah q5 I;have adL:=(q5.ah (pl m 1) E2 Qy).trans adE;have ajy:=(q5.ah (pl m 2) E2 Qy).trans adC;have adK:=(q5.ah l E2 Qy).trans adB;have oz5:∀y,m<=y->y<pl l 1->fQ y=0:=λy h1 h2=>(q5.same y E2).trans (oz4 y h1 h2);have qB5:Fr qj own f m fQ f5 m5:=abC.trans q5 (λ_ h=>h) W;have qQ5:Fr xq g f3 s fQ f5 m5:=abz.trans q5 (λ_ h=>h) W;have aoc:h≠m5:=E2;have aog:l≠m5:=E2;have aof:pl m 1≠m5:=E2;have aod:pl m 2≠m5:=E2;simp only[go_sem,adL,ajy,adK,oH5,Nx.symm,n1.symm,n2.symm,w2,hc5.one];refine fG ?_;intro aEZ hG;have qG:Fr (λc=>c=0\/c=71) fQ f5 m5 fQ aEZ m5:=by
   rw[hG];refine Fr.w (m2:=m5) ?_ E1
   repeat (first|exact Fr.refl _ _ _ _|refine Fr.bw ?_ Qt)
  have GC:Fr qj own f m fQ aEZ m5:=by
   rw[hG];refine Fr.w (m2:=m5) ?_ E1
   repeat (first|exact qB5|refine Fr.bw ?_ Qg)
  have GA:Fr xq g f3 s fQ aEZ m5:=qQ5.trans qG (λ_ h=>h) W;have HX:aEZ h=(.row 41 4 0 true [.bg,.au,.au,.au] (.cf (bI [.ptr M 0,v4,v5,zJ]))):=X6;refine E _ _ _ ⟨fQ,xs++ [n],nc+1,nr,hQ _ _ _ _ _ _ _ Rv GA,⟨⟨_,_,_,_,_,⟨HX,aH5.own,aH5.lt⟩,Vc,hc5.ah qG I,hr5.ah qG I⟩,λy p=>O9⟩,V3,bP _,gC _,GC⟩
 refine(kf (k=5)).elim (λk5=>?S5) (λk5=>?S6)
 case S5=>
  subst k5;simp only[go_sem,XF,XI,ahk,ZU,ZT,ZS,oH3,n2m,Nx,n1m,w2,DK.bt,DK.tR,Uo.bt,Uo.tR,cn];refine gE ?_;intro F4 Dq;have oS:Fr (λc=>c=0\/c=71) g f3 s g F4 (pl s 1):=by
   rw[Dq];refine Fr.w (m2:=s) ?_ E1
   repeat (first|exact Fr.refl _ _ _ _|refine Fr.bw ?_ Qh)
  have Bw:Fr qj own f m g F4 (pl s 1):=by
   rw[Dq];refine Fr.w (m2:=s) ?_ E1
   repeat (first|exact qB3|refine Fr.bw ?_ Qg)
  have Bv:Fr xq g f3 s g F4 (pl s 1):=qQ3.trans oS (λ_ h=>h) W;have CE:F4 (pl m 1)=(.row 54 4 0 true [.num 0,.num 0,.au,.str []] (.cf (zf [.num 0,.num 0,.au,.str []]))):=O5;have CD:F4 (pl m 2)=(.row 60 5 0 true [.num 0,.num 0,.num 0,.num 0,.str []] (.cf (laid 0 [Q 5,Q A',Q aF1,Q C,.str t] (zf [.num 0,.num 0,.num 0,.num 0,.str []])))):=O5;have CB:F4 l=(.row 54 4 0 true [.num 0,.num 0,.au,.str []] (.cf (laid 0 [Q 0,Q n,w,.str x] (zf [.num 0,.num 0,.au,.str []])))):=O5;have CA:F4 h=(.row 41 4 0 true [.bg,.au,.au,.au] (.cf (bI [.ptr M 0,IE,zK,zJ]))):=O5;refine dv (DK.ah oS I) (n':=1) rfl (λu L=>J4) Z Z ?_;intro v4 cS f4 m4 Uq i;have lq4:=i.le;have lF4:=oS.le;have Av:At cS 71 f4 m4 h (.row 41 4 0 true [.bg,.au,.au,.au] (.cf (bI [.ptr M 0,IE,zK,zJ]))):=(⟨CA,Dr.own,bW Dr.lt oS.le⟩:At g 71 F4 (pl s 1) h _).ah i I;have oH4:=Av.obj;have NA:=(Uy.ah oS I).ah i I;have Un:=(Uo.ah oS I).ah i I;have zE:=(i.ah (pl m 1) E2 Qm).trans CE;have DQ:=(i.ah (pl m 2) E2 Qm).trans CD;have zD:=(i.ah l E2 Qm).trans CB;have oz4:∀y,m<=y->y<pl l 1->cS y=0:=λy h1 h2=>(i.same y E2).trans (oz3 y h1 h2);have qB4:Fr qj own f m cS f4 m4:=Bw.trans i (λ_ h=>h) W;have qQ4:Fr xq g f3 s cS f4 m4:=Bv.trans i (λ_ h=>h) W;have Py:h≠m4:=E2;have KN:l≠m4:=E2;have XG:pl m 1≠m4:=E2;have PC:pl m 2≠m4:=E2;simp only[go_sem,Py,KN,PC,zE,DQ,zD,oH4,Nx.symm,n1.symm,n2.symm,w2,Uq.one,Un.bt,Un.tR];refine gE ?_;intro F5 hF5;have WJ:Fr (λc=>c=0\/c=71) cS f4 m4 cS F5 (pl m4 1):=by
   rw[hF5];refine Fr.w (m2:=m4) ?_ E1
   repeat (first|exact Fr.refl _ _ _ _|refine Fr.bw ?_ Qj)
  have abC:Fr qj own f m cS F5 (pl m4 1):=by
   rw[hF5];refine Fr.w (m2:=m4) ?_ E1
   repeat (first|exact qB4|refine Fr.bw ?_ Qg)
  have abz:Fr xq g f3 s cS F5 (pl m4 1):=qQ4.trans WJ (λ_ h=>h) W;have adE:F5 (pl m 1)=(.row 54 4 0 true [.num 0,.num 0,.au,.str []] (.cf (zf [.num 0,.num 0,.au,.str []]))):=P9;have adC:F5 (pl m 2)=(.row 60 5 0 true [.num 0,.num 0,.num 0,.num 0,.str []] (.cf (laid 0 [Q 5,Q A',Q aF1,Q C,.str t] (zf [.num 0,.num 0,.num 0,.num 0,.str []])))):=N0;have adB:F5 l=(.row 54 4 0 true [.num 0,.num 0,.au,.str []] (.cf (laid 0 [Q 0,Q n,w,.str x] (zf [.num 0,.num 0,.au,.str []])))):=P7;have adz:F5 h=(.row 41 4 0 true [.bg,.au,.au,.au] (.cf (bI [.ptr M 0,v4,zK,zJ]))):=by rw[hF5];exact zC
  refine dv (Un.ah WJ I) (n':=1) rfl (λu L=>J4) Z Z ?_;intro v5 fQ f5 m5 hr5 q5;have lq5:=q5.le;have lF5:=WJ.le;have aH5:At fQ 71 f5 m5 h (.row 41 4 0 true [.bg,.au,.au,.au] (.cf (bI [.ptr M 0,v4,zK,zJ]))):=(⟨adz,Av.own,bW Av.lt WJ.le⟩:At cS 71 F5 (pl m4 1) h _).ah q5 I;have oH5:=aH5.obj;have hn5:=(Uq.ah WJ I).ah q5 I;have hc5:=(NA.ah WJ I).ah q5 I;have adL:=(q5.ah (pl m 1) E2 Qy).trans adE;have ajy:=(q5.ah (pl m 2) E2 Qy).trans adC;have adK:=(q5.ah l E2 Qy).trans adB;have oz5:∀y,m<=y->y<pl l 1->fQ y=0:=λy h1 h2=>(q5.same y E2).trans (oz4 y h1 h2);have qB5:Fr qj own f m fQ f5 m5:=abC.trans q5 (λ_ h=>h) W;have qQ5:Fr xq g f3 s fQ f5 m5:=abz.trans q5 (λ_ h=>h) W;have aoc:h≠m5:=E2;have aog:l≠m5:=E2;have aof:pl m 1≠m5:=E2;have aod:pl m 2≠m5:=E2;simp only[go_sem,adL,adK,oH5,Nx.symm,n1.symm,w2,hr5.one];refine fG ?_;intro aEZ hG;have qG:Fr (λc=>c=0\/c=71) fQ f5 m5 fQ aEZ m5:=by
   rw[hG];refine Fr.w (m2:=m5) ?_ E1
   repeat (first|exact Fr.refl _ _ _ _|refine Fr.bw ?_ Qt)
  have GC:Fr qj own f m fQ aEZ m5:=by
   rw[hG];refine Fr.w (m2:=m5) ?_ E1
   repeat (first|exact qB5|refine Fr.bw ?_ Qg)
  have GA:Fr xq g f3 s fQ aEZ m5:=qQ5.trans qG (λ_ h=>h) W;have HX:aEZ h=(.row 41 4 0 true [.bg,.au,.au,.au] (.cf (bI [.ptr M 0,v4,zK,v5]))):=X6;refine E _ _ _ ⟨fQ,xs++ [n],nc,nr+1,hQ _ _ _ _ _ _ _ Rv GA,⟨⟨_,_,_,_,_,⟨HX,aH5.own,aH5.lt⟩,Vc,hc5.ah qG I,hr5.ah qG I⟩,λy p=>O9⟩,V3,gC _,bP _,GC⟩
 simp only[go_sem,XF,XI,ZU,ZT,ZS,oH3,n2m,Nx,n1m,w2,DK.bt,DK.tR,cn,k12,k1,k5];refine gE ?_;intro F4 Dq;have oS:Fr (λc=>c=0\/c=71) g f3 s g F4 (pl s 1):=by
  rw[Dq];refine Fr.w (m2:=s) ?_ E1
  repeat (first|exact Fr.refl _ _ _ _|refine Fr.bw ?_ Qh)
 have Bw:Fr qj own f m g F4 (pl s 1):=by
  rw[Dq];refine Fr.w (m2:=s) ?_ E1
  repeat (first|exact qB3|refine Fr.bw ?_ Qg)
 have Bv:Fr xq g f3 s g F4 (pl s 1):=qQ3.trans oS (λ_ h=>h) W;have CE:F4 (pl m 1)=(.row 54 4 0 true [.num 0,.num 0,.au,.str []] (.cf (zf [.num 0,.num 0,.au,.str []]))):=O5;have CD:F4 (pl m 2)=(.row 60 5 0 true [.num 0,.num 0,.num 0,.num 0,.str []] (.cf (laid 0 [Q k,Q A',Q aF1,Q C,.str t] (zf [.num 0,.num 0,.num 0,.num 0,.str []])))):=O5;have CB:F4 l=(.row 54 4 0 true [.num 0,.num 0,.au,.str []] (.cf (laid 0 [Q 0,Q n,w,.str x] (zf [.num 0,.num 0,.au,.str []])))):=O5;have CA:F4 h=(.row 41 4 0 true [.bg,.au,.au,.au] (.cf (bI [.ptr M 0,IE,zK,zJ]))):=O5;refine dv (DK.ah oS I) (n':=1) rfl (λu L=>J4) Z Z ?_;intro v4 cS f4 m4 Uq i;have lq4:=i.le;have lF4:=oS.le;have Av:At cS 71 f4 m4 h (.row 41 4 0 true [.bg,.au,.au,.au] (.cf (bI [.ptr M 0,IE,zK,zJ]))):=(⟨CA,Dr.own,bW Dr.lt oS.le⟩:At g 71 F4 (pl s 1) h _).ah i I;have oH4:=Av.obj;have NA:=(Uy.ah oS I).ah i I;have Un:=(Uo.ah oS I).ah i I;have zE:=(i.ah (pl m 1) E2 Qm).trans CE;have DQ:=(i.ah (pl m 2) E2 Qm).trans CD;have zD:=(i.ah l E2 Qm).trans CB;have oz4:∀y,m<=y->y<pl l 1->cS y=0:=λy h1 h2=>(i.same y E2).trans (oz3 y h1 h2);have qB4:Fr qj own f m cS f4 m4:=Bw.trans i (λ_ h=>h) W;have qQ4:Fr xq g f3 s cS f4 m4:=Bv.trans i (λ_ h=>h) W;have Py:h≠m4:=E2;have KN:l≠m4:=E2;have XG:pl m 1≠m4:=E2;have PC:pl m 2≠m4:=E2;simp only[go_sem,zE,DQ,zD,oH4,Nx.symm,n1.symm,n2.symm,w2,Uq.one,k1,k5];refine fG ?_;intro aEZ hG;have qG:Fr (λc=>c=0\/c=71) cS f4 m4 cS aEZ m4:=by
  rw[hG];refine Fr.w (m2:=m4) ?_ E1
  repeat (first|exact Fr.refl _ _ _ _|refine Fr.bw ?_ Qj)
 have GC:Fr qj own f m cS aEZ m4:=by
  rw[hG];refine Fr.w (m2:=m4) ?_ E1
  repeat (first|exact qB4|refine Fr.bw ?_ Qg)
 have GA:Fr xq g f3 s cS aEZ m4:=qQ4.trans qG (λ_ h=>h) W;have HX:aEZ h=(.row 41 4 0 true [.bg,.au,.au,.au] (.cf (bI [.ptr M 0,v4,zK,zJ]))):=X6;refine E _ _ _ ⟨cS,xs++ [n],nc,nr,hQ _ _ _ _ _ _ _ Rv GA,⟨⟨_,_,_,_,_,⟨HX,Av.own,Av.lt⟩,Vb,NA.ah qG I,Un.ah qG I⟩,λy p=>O9⟩,V3,gC _,gC _,GC⟩
end
variable{i j m:Nat}{own:aG}{f:av}
structure Dh where
 k:Int
 A:Int
 aF1:Int
 C:Int
 t:aI
 r:Int
def Dh.cs(o:Dh):ay:=[Q o.k,Q o.A,Q o.aF1,Q o.C,.str o.t,Q o.r]
def Dh.v(o:Dh):V:=opL o.k o.A o.aF1 o.C o.t o.r
def OpR(o:Dh):Prop:=o.A<=9223372036854775807/\o.C<=9223372036854775807/\(∀b∈o.t,b<256)/\o.t.length<=9223372036854775807
def a2S(os:List Dh):ay:=os.flatMap Dh.cs
def w9(os:List Dh)(h:i<os.length)(a:j<6):bI (a2S os) (i*6+j)=bI os[i].cs j:=flat_get (cs:=Dh.cs) (z:=6) (λ_=>rfl) os h a
structure tY(own:aG)(f:av)(m:Nat)(v:V)(os:List Dh):Prop where
 val:(∀q,V.live v q=q v)/\(∀q d,V.bt v q d=q v)/\(∀q,V.one v q=q v)/\(∀q,V.cells v q=q [v])
 ln:∀q,jD v q=q (Q os.length)
 lo:0<os.length->∃te,Lo own f m te 6 v os.length (a2S os)
def tY.ah{t:aG}{L:Nat}{v:V}{os:List Dh}{P:dF}(h:tY own f m v os)(q:Fr P own f m t y L)(h0:¬P 0):tY t y L v os:=
 ⟨h.val,h.ln,λg=>let ⟨k,a⟩:=h.lo g;⟨k,a.ah q h0⟩⟩
def tY.at{v:V}{os:List Dh}(h:tY own f m v os)(F:i<os.length):∃te b o cp mm fz w zs g,v= .sl b o os.length cp/\b<m/\f b= .row te mm fz w zs (.cf g)/\o+i*6+6<=mm/\∀j,j<6->g (o+i*6+j)=bI (a2S os) (i*6+j):=by obtain⟨te,t⟩:=h.lo Z;exact⟨te,t.1.at F⟩
def tY.nil:tY own f m .au []:=⟨⟨λ_=>rfl,λ_ _=>rfl,λ_=>rfl,λ_=>rfl⟩,λ_=>rfl,λh=>G⟩
section
variable {own:aG} {f:av} {m h M i j nc nr:Nat} {xs:dC} {u:Su} {s:Ms}
def a4k{R:Rt}(H:HOk own f m h M xs nc nr)(aF0:kS own f m M u s i j)(hi:i<60)(hj:j<100)(S:xs.length<=1000)(hnc:nc<=1000)(hnr:nr<=1000)(o:Dh)(L:OpR o):
  Cl R.Y.Y.Y.Y.Y.Y.Y.Y.Y.Y.Y.Y.Y.Y.Y.Y.Y.Y.Y.Y 15 [.ptr h 0,o.v] f m (λv y m'=>∃(bo:aG) (E:dC) (a nr':Nat) (e n:Int) (w:V) (x:aI) (s':Ms),v=rep e n w x/\a0s w/\(e≠0->n=0/\w= .au/\x= []/\Nk s s')/\kS bo y m' M u s' (i+1) (j+1)/\HOk bo y m' h M E a nr'/\E.length<=xs.length+1/\a<=nc+1/\nr'<=nr+1/\Fr qj own f m bo y m'):=by
 refine(aqb (R:=R.Y.Y.Y.Y.Y.Y.Y.Y.Y.Y.Y.Y.Y.Y.Y.Y.Y.Y) H aF0.z S hnc hnr o.k o.A o.aF1 o.C o.t o.r (λv bX f1 m1=>∃(e n:Int) (w:V) (x:aI) (s':Ms),v=rep e n w x/\a0s w/\(e≠0->n=0/\w= .au/\x= []/\Nk s s')/\kS bX f1 m1 M u s' (i+1) (j+1)) (λF p c q N=>?_) ?_).mono ?_
 .have hA':c<=9223372036854775807:=by
   rcases N with rfl|N
   .exact L.1
   .exact H.xb _ N
  refine(agk (R:=R) (aF0.gr q) hi hj o.k c o.aF1 o.C hA' L.2.1 o.t L.2.2.1 L.2.2.2).mono ?_;rintro v y m' ⟨e,n,w,x,bo,s',rfl,l,b,g,_,P⟩;exact⟨e,n,w,x,bo,rfl,l,g,P.q,e,n,w,x,s',rfl,l,λh=>⟨Z,W,W,P.r h⟩,P.aF0⟩
 .rintro v bX f1 m1 dm d m2 ⟨e,n,w,x,s',rfl,l,b,hI⟩ q;exact⟨e,n,w,x,s',rfl,l,b,hI.ah q W⟩
 grind
def VR{R:Rt}{v:V}{os:List Dh}(H:tY own f m v os)(ho:∀o∈os,OpR o)(hl:os.length<=9223372036854775807)(c z q l:Int):
  Cl R.Y.Y 6 [.agg [Q c,Q z,Q q,Q l],v,Q 60] f m (λr f' L=>(∃b,r= .bool b/\(b=true->os.length<=60/\OP c z))/\B f m f' L):=by
 intro kk S hk;obtain⟨t1,t2,t3,t4⟩:=H.val;have d:=H.ln;by_cases c1:os.length<=60
 case neg=>have a:(60:Int)<(os.length:Nat):=Z;refine cUx func6 ?_;refine zS ?_;exact hk _ _ _ ⟨W,(B.w (m2:=m) Qc E1)⟩
 have a:¬(60:Int)<(os.length:Nat):=Z;refine cUx func6 ?_;simp only[go_sem,t1,d,a, ↓ag 17];refine aP ?_;intro F j;have M:B f m F (pl m 1):=Vv;apply(Yy c z q l).bu;rintro u f1 m1 ⟨⟨y,rfl,hy⟩,P⟩;have q2:=M.trans P;by_cases c2:y=0
 case pos=>refine zS ?_;grind
 have A:=H.ah (q2.fr own (λ_=>False)) id;simp only[go_sem,c2];refine kW (n:=os.length+1) (aF0:=λrem e f' L=>∃i:Nat,i+rem=os.length+1/\1<=rem/\f'=f1/\L=m1/\(eg 1).get e=v/\(eg 7).get e=Q i) (E:=λx e f' L=>f'=f1/\L=m1/\(x= .exit 0\/x= .ret/\(eg 6).get e= .bool false)) ?_ J2 ?_ ?_
 .exact ⟨0,Z,Z,rfl,rfl,E6,E6⟩
 .rintro rem e f' L ⟨i,Uu,Hy,rfl,rfl,e1,e7⟩ h kx C hE;unfold iB;by_cases hi:i<os.length
  case neg=>have yX:¬((i:Int)<(os.length:Nat)):=Z;simp only[go_sem,e1,e7,t1,d,yX];grind
  have yX:((i:Int)<(os.length:Nat)):=Z;have N:IntKind.i64.wrap ((i:Int)+1)=((i+1:Nat):Int):=Qf;obtain⟨k,b,o,cp,mm,fz,w',zs,g,rfl,s,hf,nz,p⟩:=A.at hi;have g4:g (o+i*6+4)= .str os[i].t:=(p 4 I).trans (w9 os hi I);have ai3:o+i*6+4<mm:=Z;have Dn:=(ho _ (eL hi)).2.2.2;by_cases c3:(9000:Int)<(os[i].t.length:Nat)
  case pos=>simp only[go_sem,e1,e7,d,yX,hi,hf,ai3,Aj Dn,g4,c3];exact hE _ _ _ _ ⟨rfl,rfl,.inr ⟨rfl,E6⟩⟩
  case neg=>simp only[go_sem,e1,e7,d,yX,hi,hf,ai3,Aj Dn,g4,N,c3];exact C (rem-1) _ _ _ Z ⟨i+1,Z,Z,rfl,rfl,E6,E6⟩
 .rintro x e f' L ⟨rfl,rfl,rfl|⟨rfl,e6⟩⟩
  .refine zS ?_;grind
  .refine zS ?_;grind
end
def a4R(tl)(tp:Nat->dC)(p:Nat):z7 (λ_=>false) tl tp p= []:=by unfold z7;refine List.flatMap_eq_nil_iff.2 λk _=>?_;exact aj (λh=>Bool.noConfusion h.1)
def ae4(n f z:Nat)(m:Nat->aI)(h:∀p,m p= []):BI (a7U n f z) m:=by
 have e:∀p,(a7U n f z).pu p++m p= []:=G;refine⟨λp=>?_,λp i F=>?_,λp L=>?_,λp _=>e p,λp L=>?_,λt o=>?_⟩
 .grind
 .grind
 .trivial
 .trivial
 trivial
def aco(u:Su)(n f z:Nat)(hn:n<=12)(hc:(n:Int)=u.c)(N:(z:Int)=u.q):MP u (aca n f z) 0 0 0 0 0:=
 ⟨ae4 n f z _ (λp=>a4R _ _ p),λk E=>G,hn,G,G,G,λp=>bP _,λp=>bP _,bP _,bP _,bP _,λt o=>G,I,I,hc,N⟩
section
variable {own:aG} {f:av} {m:Nat}
def OD{R:Rt}{v:V}{os:List Dh}(hz:∀x,m<=x->own x=0)(hv:tY own f m v os)(ho:∀o∈os,OpR o)(hl:os.length<=60)(c z q l:Int)(hs:OP c z):
  Cl R.Y.Y.Y.Y.Y.Y.Y.Y.Y.Y.Y.Y.Y.Y.Y.Y.Y.Y.Y.Y.Y 8 [.agg [Q c,Q z,Q q,Q l],v] f m (λr y m'=>∃bo,Fr qj own f m bo y m'/\((∃X,r= .cI [.ptr X 0,.bool false])\/∃h M s xs nc nr,r= .cI [.ptr h 0,.bool true]/\kS bo y m' M ⟨c,z,q,l⟩ s os.length os.length/\HOk bo y m' h M xs nc nr/\xs.length<=os.length/\nc<=os.length/\nr<=os.length)):=by
 intro kk S hk;obtain⟨t1,t2,t3,t4⟩:=hv.val;have d:=hv.ln;refine cUx func8 ?_;simp only[go_sem, ↓ag 19];refine aP ?_;intro F hF;have qF:B f m F (pl m 1):=Vw;have zF:∀x,pl m 1<=x->own x=0:=λx hx=>hz x W;apply(a3p own F (pl m 1) zF R.Y.Y.Y.Y.Y.Y.Y.Y.Y.Y.Y.Y c z q l hs.1 hs.2).bu;rintro r f1 m1 (⟨e,he,rfl,bX,q1⟩|⟨M,n,sz,qt,bX,a,rfl,rfl,rfl,rfl,LK,hn2,hs1,IK,hM,q1⟩)
 .have q2:Fr qj own f m bX f1 m1:=(qF.fr own qj).trans q1 (λ_ h=>h) W;refine zS ?_;refine fG ?_;intro aEZ hG;exact hk _ _ _ ⟨bX,q2.trans ((show B f1 m1 aEZ _ by rw[hG];exact(B.w (m2:=m1) Qc E1)).fr bX qj) (λ_ h=>h) (λ_ h=>h),W⟩
 have q2:Fr qj own f m bX f1 m1:=(qF.fr own qj).trans q1 (λ_ h=>h) W;refine zS ?_;have lo1:=hv.ah q2 W;have zM:=hM.b.z;refine uV ?_;intro aEZ hG;have qG:Fr (λ_=>False) bX f1 m1 (cm bX m1 [71]) aEZ (pl m1 1):=by rw[hG];exact Fr.cm (P:=λ_=>False) (B.fr (B.w (m2:=m1) Qc E1) _ _) I
 have hH:HOk (cm bX m1 [71]) aEZ (pl m1 1) m1 M [] 0 0:=⟨⟨.au,.au,.au,[],[],ez X8 rfl I,bS.nil,bS.nil,bS.nil⟩,G⟩;have hI:kS (cm bX m1 [71]) aEZ (pl m1 1) M ⟨n,sz,qt,l⟩ (aca n sz qt) 0 0:=kS.of (hM.ah qG (λ_ _=>id)) rfl (aco _ n sz qt hn2 rfl rfl);have lo2:=lo1.ah qG id;have q3:Fr qj own f m (cm bX m1 [71]) aEZ (pl m1 1):=q2.trans qG (λ_ h=>h) (λ_ h=>h.elim);refine cU (x:=.exit 0) (n:=os.length+1) (aF0:=λrem e y m'=>∃(i:Nat) (bo:aG) (s:Ms) (xs:dC) (nc nr:Nat),i+rem=os.length+1/\1<=rem/\(eg 1).get e=v/\(eg 8).get e= .ptr m1 0/\(eg 9).get e=Q i/\kS bo y m' M ⟨n,sz,qt,l⟩ s i i/\HOk bo y m' m1 M xs nc nr/\xs.length<=i/\nc<=i/\nr<=i/\tY bo y m' v os/\Fr qj own f m bo y m')
  (E:=λe y m'=>∃(bo:aG) (s:Ms) (xs:dC) (nc nr:Nat),(eg 8).get e= .ptr m1 0/\kS bo y m' M ⟨n,sz,qt,l⟩ s os.length os.length/\HOk bo y m' m1 M xs nc nr/\xs.length<=os.length/\nc<=os.length/\nr<=os.length/\Fr qj own f m bo y m') ?_ J2 ?_ ?_
 .exact ⟨0,_,_,[],0,0,Z,Z,E6,E6,E6,hI,hH,G,G,G,lo2,q3⟩
 .rintro rem e y m' ⟨i,bo,s,xs,nc,nr,Uu,Hy,u,e8,e9,aF0,H,l1,l2,l3,L,q⟩ rr kx lR hE;unfold iB;by_cases hi:i<os.length
  case neg=>have yX:¬((i:Int)<(os.length:Nat)):=Z;have ei:i=os.length:=Z;subst ei;refine zS ?_;exact hE _ _ _ ⟨bo,s,xs,nc,nr,E6,aF0,H,l1,l2,l3,q⟩
  have yX:((i:Int)<(os.length:Nat)):=Z;have ew:IntKind.i64.wrap ((i:Int)+1)=((i+1:Nat):Int):=Qf;obtain⟨te,b,o,cp,mm,fz,w',zs,g,rfl,hb,hf,nz,p⟩:=L.at hi;have gc:∀j,j<6->g (o+i*6+j)=bI os[i].cs j:=λj hj=>(p j hj).trans (w9 os hi hj);have g0:g (o+i*6)=Q os[i].k:=gc 0 I;have g1:g (o+i*6+1)=Q os[i].A:=gc 1 I;have g2:g (o+i*6+2)=Q os[i].aF1:=gc 2 I;have g3:g (o+i*6+3)=Q os[i].C:=gc 3 I;have g4:g (o+i*6+4)= .str os[i].t:=gc 4 I;have g5:g (o+i*6+5)=Q os[i].r:=gc 5 I;have N:=a4k (R:=R) H aF0 Z Z Z Z Z os[i] W;unfold Dh.v opL at N;simp only[go_sem,u,e8,e9,d,yX,hi,hf,nz,g0,g1,g2,g3,g4,g5, ↓ag 15];refine N.bu ?_;rintro r f2 m2 ⟨dm,xs2,nc2,nr2,e',n',w,x,s2,rfl,hw,he,I2,H2,k1,k2,k3,q5⟩;refine zS ?_;exact lR (rem-1) _ _ _ Z ⟨i+1,dm,s2,xs2,nc2,nr2,Z,Z,E6,E6,E6,I2,H2,Z,Z,Z,L.ah q5 W,q.trans q5 (λ_ h=>h) (λ_ h=>h)⟩
 .rintro e y m' ⟨bo,s,xs,nc,nr,e8,aF0,H,l1,l2,l3,q⟩;refine zS ?_;grind
end
variable{te:Nat}{os:aI}
def a1G{g:aG}:∀{l:aI},(∀x∈l,g x<=c)->(l.map g).sum<=l.length*c
 |[],_=>kU _
 |a::l,h=>by have A:=h a (ko ..);have N:=a1G (λx S=>h x (ia _ S));rw[jn,List.sum_cons,kg,NV];omega
section
variable {own:aG} {f:av} {m M i j:Nat} {u:Su} {s:Ms}
def kS.al(aF0:kS own f m M u s i j)(hn:os.Nodup)(L:∀x∈os,s.S x≠none):VC s.S os<=4000:=by
 obtain⟨c,d,P,a,H,g⟩:=aF0;have A:os.length<=64:=dg hn (λx b=>by
  cases e:s.S x with
  |none=>grind
  |some p=>exact H.p.lt e)
 have N:∀x∈os,laN s.S x<=60:=λx b=>by
  unfold laN;cases e:s.S x with
  |none=>trivial
  |some p=>have:=(H.p.pc x p e).1;have:=g.hKp;have:=g.i1;grind
 have h:=a1G N;have k:os.length*60<=64*60:=Z;unfold VC;omega
def KT{R:Rt}(aF0:kS own f m M u s i j):
  Cl R.Y.Y.Y.Y.Y.Y.Y.Y.Y 9 [.ptr M 0] f m (λv y L=>∃t,StM t y L s v/\kS t y L M u s i j/\Fr (· =31) own f m t y L):=by
 have b:=aF0;obtain⟨c,d,P,a,H,g⟩:=aF0;refine(XM (R:=R) H (λe A N=>b.al A N)).mono ?_;rintro v y L ⟨t,A,N,q⟩;exact⟨t,A,⟨c,d,P,a,N,g⟩,q⟩
def kS.few(aF0:kS own f m M u s i j):s.b.n<=64/\s.b.ws.length<=64/\s.b.ts.length<=200:=by obtain⟨c,d,P,a,H,g⟩:=aF0;have A:=g.n;have N:=dg H.b.re.ln.nd (λx S=>((H.b.re.ws x).1 S).1);have e:=g.tsl;have h:=g.i1;omega
def Tr(i o l:Nat)(c:Cp):V.same (.sl i o l c) (.sl i o l c)=true:=by
 cases c with
 |known x=>show aR (Nat.beq i i) (aR (Nat.beq o o) (aR (Nat.beq l l) (Nat.beq x x) false) false) false=true;simp only[fP];rfl
 |less x z=>show aR (Nat.beq i i) (aR (Nat.beq o o) (aR (Nat.beq l l) (aR (Nat.beq x x) (Nat.beq z z) false) false) false) false=true;simp only[fP];rfl
def wC{z n:Nat}{v:V}{cs:ay}(h:i7 f m te z v n cs):V.same v v=true:=by
 rcases h with⟨rfl,_⟩|⟨_,_,_,_,_,_,_,_,rfl,_⟩
 .rfl
 .exact Tr ..
def a3W{v:V}{xs:dC}(h:ll f m v xs):V.same v v=true:=by
 rcases h.len with⟨rfl,_⟩|⟨_,_,_,rfl⟩
 .rfl
 .exact Tr ..
def StM.val{v:V}(h:StM own f m s v):∃j k vm l a,v= .agg [Q s.b.tk,j,k,vm,l,a]/\rK [Q s.b.tk,j,k,vm,l,a]/\((∀q,V.live j q=q j)/\(∀q d,V.bt j q d=q j)/\(∀q,V.one j q=q j)/\(∀q,V.cells j q=q [j]))/\((∀q,V.live k q=q k)/\(∀q d,V.bt k q d=q k)/\(∀q,V.one k q=q k)/\(∀q,V.cells k q=q [k]))/\((∀q,V.live vm q=q vm)/\(∀q d,V.bt vm q d=q vm)/\(∀q,V.one vm q=q vm)/\(∀q,V.cells vm q=q [vm]))/\((∀q,V.live l q=q l)/\(∀q d,V.bt l q d=q l)/\(∀q,V.one l q=q l)/\(∀q,V.cells l q=q [l]))/\((∀q,V.live a q=q a)/\(∀q d,V.bt a q d=q a)/\(∀q,V.one a q=q a)/\(∀q,V.cells a q=q [a])):=by
 obtain⟨j,k,vm,l,a,e,i,rfl,N,M,c,r⟩:=h.st;refine⟨j,k,vm,l,a,rfl,λu L=>?_,bV N.fc.1,tG N.fw,bV N.fm.1,bV N.fp.1,bV r.1⟩;simp only[fY,lG,or_false] at L;rcases L with rfl|rfl|rfl|rfl|rfl|rfl
 .exact Ts _
 .exact wC N.fc.1
 .exact a3W N.fw
 .exact wC N.fm.1
 .exact wC N.fp.1
 .exact wC r.1
end
def AJ(R h k):(xk .holds).run R [] h k=k (.bool true) h:=G
section
variable {own:aG} {f:av} {m:Nat}
def VS{R:Rt}{v:V}{os:List Dh}(hz:∀x,m<=x->own x=0)(hv:tY own f m v os)(ho:∀o∈os,OpR o)(hl:os.length<=9223372036854775807)(c z q l:Int):
  Cl R.Y.Y.Y.Y.Y.Y.Y.Y.Y.Y.Y.Y.Y.Y.Y.Y.Y.Y.Y.Y.Y.Y 5 [.agg [Q c,Q z,Q q,Q l],v] f m (λr y m'=>r= .bool true):=by
 intro kk T hk;obtain⟨t1,t2,t3,t4⟩:=hv.val;have ln:=hv.ln;have ckw:eW K 7=xk .holds:=G;refine cUx func5 ?_;simp only[go_sem,t1, ↓ag 6];refine aP ?_;intro F hF;have qF:B f m F (pl m 1):=Vw;have zF:∀x,pl m 1<=x->own x=0:=λx hx=>hz x W;have a0:F m=(.row 23 4 0 true [.num 0,.num 0,.num 0,.num 0] (.cf (bI [Q c,Q z,Q q,Q l]))):=O2;refine(VR (R:=R.Y.Y.Y.Y.Y.Y.Y.Y.Y.Y.Y.Y.Y.Y.Y.Y.Y.Y.Y) (hv.ah (qF.fr own (λ_=>False)) id) ho hl c z q l).bu ?_;rintro r f1 m1 ⟨⟨b,rfl,hb⟩,P⟩;cases b with
 |false=>simp only[go_sem,AJ];grind
 |true=>
 obtain⟨azd,hs⟩:=hb rfl;have b0:=(P.ah m W).trans a0;simp only[go_sem,b0, ↓ag 8];have z1:∀x,m1<=x->own x=0:=λx hx=>hz x T4;apply(OD (R:=R) (own:=own) (os:=[]) z1 tY.nil (λo ho=>G) I c z q l hs).bu;have lo1:=hv.ah ((qF.trans P).fr own (λ_=>False)) id;rintro r f2 m2 ⟨dm,q2,⟨X,rfl⟩|⟨h,M,s,xs,nc,nr,rfl,aF0,H,l1,l2,l3⟩⟩
 .refine zS ?_;refine a3w ?_;unfold iB;simp only[go_sem,AJ];grind
 refine zS ?_;have lo2:=lo1.ah q2 W;refine kW (n:=os.length+1) (aF0:=λrem e y m'=>∃(i:Nat) (bo:aG) (s:Ms) (xs:dC) (nc nr:Nat),i+rem=os.length+1/\1<=rem/\(eg 1).get e=v/\(eg 5).get e= .ptr h 0/\(eg 6).get e= .bool true/\(eg 7).get e=Q i/\kS bo y m' M ⟨c,z,q,l⟩ s i i/\HOk bo y m' h M xs nc nr/\xs.length<=i/\nc<=i/\nr<=i/\tY bo y m' v os)
  (E:=λx e y m'=>x= .exit 0) ?_ J2 ?_ ?_
 .exact ⟨0,_,s,xs,nc,nr,Z,Z,E6,E6,E6,E6,aF0,H,l1,l2,l3,lo2⟩
 .rintro rem e y m' ⟨i,bo,s,xs,nc,nr,Uu,Hy,u,e5,e6,e7,aF0,H,l1,l2,l3,L⟩ rr kx lR hE;unfold iB;by_cases hi:i<os.length
  case neg=>have yX:¬((i:Int)<(os.length:Nat)):=Z;simp only[go_sem,u,e6,e7,t1,ln,yX];grind
  have yX:((i:Int)<(os.length:Nat)):=Z;have ew:IntKind.i64.wrap ((i:Int)+1)=((i+1:Nat):Int):=Qf;obtain⟨vn,vc,vr,cs,rs,aH,_,_,_⟩:=H.aH;have oH:=aH.obj;simp only[go_sem,u,e5,e6,e7,t1,ln,yX,oH, ↓ag 9];apply(KT (R:=R.Y.Y.Y.Y.Y.Y.Y.Y.Y.Y.Y.Y) aF0).bu;rintro w1 g1 p1 ⟨g9,hw1,I1,r1⟩;have H1:=H.ah r1 W;have L1:=L.ah r1 I;obtain⟨x1,x2,x3,x4,x5,rfl,hAS,⟨y1,y2,y3,y4⟩,⟨y5,y6,y7,y8⟩,⟨y9,y10,y11,y12⟩,⟨y13,y14,y15,y16⟩,⟨y17,y18,y19,y20⟩⟩:=hw1.val;obtain⟨te,b,o,cp,mm,fz,w',zs,g,rfl,hbb,hf,nz,p⟩:=L1.at hi;have gc:∀j,j<6->g (o+i*6+j)=bI os[i].cs j:=λj hj=>(p j hj).trans (w9 os hi hj);have g0:g (o+i*6)=Q os[i].k:=gc 0 I;have g1':g (o+i*6+1)=Q os[i].A:=gc 1 I;have g2:g (o+i*6+2)=Q os[i].aF1:=gc 2 I;have g3:g (o+i*6+3)=Q os[i].C:=gc 3 I;have g4:g (o+i*6+4)= .str os[i].t:=gc 4 I;have g5:g (o+i*6+5)=Q os[i].r:=gc 5 I;have nb:b≠p1:=Z;simp only[go_sem,u,e5,e7,hi,hf,nz,g0,g1',g2,g3,g4,g5,nb, ↓ag 15];refine aP ?_;intro F2 xo;have Eh:B g1 p1 F2 (pl p1 1):=by rw[xo];exact(B.w (m2:=p1) Qc E1)
  have N:=a4k (R:=R.Y) (H1.ah (Eh.fr g9 (λ_=>False)) (λ_ _=>id)) (I1.gr Eh) Z Z Z Z Z os[i] W;unfold Dh.v opL at N;refine N.bu ?_;rintro r f4 m4 ⟨S,xs2,nc2,nr2,e',n',w,x,s2,rfl,hw,he,I2,H2,k1,k2,k3,q5⟩;have d8:F2 p1=_:=(congrFun xo p1).trans (aK ..);have z3:=I1.z p1 Z;have d8':=(q5.ah p1 W (by rw[z3];unfold qj;omega)).trans d8;have hw2:=((hw1.ah (Eh.fr g9 (λ_=>False)) id).ah q5 W);have L2:=(L1.ah (Eh.fr g9 (λ_=>False)) id).ah q5 W;have l4:=q5.le;unfold pl at l4;have np:p1≠m4:=Z;have M0:∀a b c d e f z,laid 0 [a,b,c,d,e,f] z 0=a:=λ_ _ _ _ _ _ _=>rfl;have M1:∀a b c d e f z,laid 0 [a,b,c,d,e,f] z 1=b:=λ_ _ _ _ _ _ _=>rfl;have M2:∀a b c d e f z,laid 0 [a,b,c,d,e,f] z 2=c:=λ_ _ _ _ _ _ _=>rfl;have M3:∀a b c d e f z,laid 0 [a,b,c,d,e,f] z 3=d:=λ_ _ _ _ _ _ _=>rfl;have M4:∀a b c d e f z,laid 0 [a,b,c,d,e,f] z 4=e:=λ_ _ _ _ _ _ _=>rfl;have M5:∀a b c d e f z,laid 0 [a,b,c,d,e,f] z 5=f:=λ_ _ _ _ _ _ _=>rfl;have P0:∀a b c d z,laid 0 [a,b,c,d] z 0=a:=λ_ _ _ _ _=>rfl;have P1:∀a b c d z,laid 0 [a,b,c,d] z 1=b:=λ_ _ _ _ _=>rfl;have P2:∀a b c d z,laid 0 [a,b,c,d] z 2=c:=λ_ _ _ _ _=>rfl;have P3:∀a b c d z,laid 0 [a,b,c,d] z 3=d:=λ_ _ _ _ _=>rfl;obtain⟨vn2,vc2,vr2,cs2,rs2,aH2,_,_,_⟩:=H2.aH;have oH2:=aH2.obj;have nh:h≠m4:=by have:=aH2.lt;omega
  by_cases ce:e'=0
  case pos=>subst ce;unfold rep;have w1:∀q,V.live w q=q w:=λq=>J9;have w2:∀q d,V.bt w q d=q w:=λq d=>J9;have w3:∀q,V.one w q=q w:=λq=>J9;refine zS ?_;exact lR (rem-1) _ _ _ Z ⟨i+1,S,s2,xs2,nc2,nr2,Z,Z,E6,E6,E6,E6,I2.gr (B.w (m2:=m4) Qc E1),H2.ah (B.fr (B.w (m2:=m4) Qc E1) S (λ_=>False)) (λ_ _=>id),Z,Z,Z,L2.ah (B.fr (B.w (m2:=m4) Qc E1) S (λ_=>False)) id⟩
  case neg=>
  obtain⟨rfl,rfl,rfl,hSE⟩:=he ce;unfold rep;simp only[go_sem,ce, ↓ag 16];refine aP ?_;intro F5 hF5;have q8:B f4 m4 F5 (pl m4 1):=by rw[hF5];exact(B.w (m2:=m4) Qc E1)
  apply(OS _ F5 (pl m4 1) e').bu;rintro r f6 m6 ⟨rfl,q9⟩;have qq:=q8.trans q9;have d8a:=(qq.ah p1 Z).trans d8';have oH6:=(qq.ah h aH2.lt).trans oH2;simp only[go_sem,ce,e5,d8a,oH6,y2,y6,y10,y14,y18, ↓ag 9];have I6:=I2.gr qq;have azE:=aF0.few;apply(KT (R:=R.Y.Y.Y.Y.Y.Y.Y.Y.Y.Y.Y.Y) I6).bu;rintro v7 f7 m7 ⟨Dz,hw7,I7,r7⟩;have hw3:=(hw2.ah (qq.fr S (λ_=>False)) id).ah r7 I;have d8b:=(r7.ah p1 (by have:=qq.le;omega) (by rw[q5.same p1 W,z3];decide)).trans d8a;have hss:=OR (R:=R.Y.Y.Y.Y.Y.Y.Y.Y.Y.Y.Y.Y.Y.Y.Y.Y.Y.Y.Y) hw3 hw7 hSE Z Z Z (λps h1 h2=>cL (aF0.al h1 h2) I);obtain⟨u1,u2,u3,u4,u5,rfl,aAC,⟨o1,o2,o3,o4⟩,⟨o5,o6,o7,o8⟩,⟨o9,o10,o11,o12⟩,⟨o13,o14,o15,o16⟩,⟨o17,o18,o19,o20⟩⟩:=hw7.val;simp only[go_sem,ce,d8b,hAS,y2,y6,y10,y14,y18, ↓ag 14];refine hss.bu ?_;rintro r f9 m9 ⟨rfl,IG⟩;have q11:Fr (λc=>c=31) S f4 m4 Dz f9 m9:=((qq.fr S _).trans r7 (λ_ h=>h) (λ_ h=>h)).trans (IG.fr Dz _) (λ_ h=>h) (λ_ h=>h);refine zS ?_;exact lR (rem-1) _ _ _ Z ⟨i+1,Dz,s2,xs2,nc2,nr2,Z,Z,E6,E6,E6,E6,I7.gr IG,H2.ah q11 W,Z,Z,Z,L2.ah q11 I⟩
 .rintro x e y m' rfl;simp only[go_sem,AJ];grind
end
end
end Go.Ev.Sy
namespace Go.Ev
open Go Go.Ev Go.Proofs
open Tryz
section
variable {C:Ctx}
def ana:cN Tryz.prog C (.xd .i64) 183:=Mr ⟨f183,E7,E7,E7,E7,E7⟩
def anb:cN Tryz.prog C (.same) 173:=a4N ⟨f173,E7,E7,E7,E7,E7⟩
def an9:cN Tryz.prog C (.xd .u32) 347:=Mr ⟨f347,E7,E7,E7,E7,E7⟩
def an6:cN Tryz.prog C (.yu) 413:=ZG ⟨f413,E7,E7,E7,E7,E7⟩
def an8:cN Tryz.prog C (.count) 404:=ZH ⟨f404,E7,E7,E7,E7,E7⟩
def an5:cN Tryz.prog C (.IA .i64) 426:=UG ⟨f426,E7,E7,E7,E7,E7⟩
def an3:cN Tryz.prog C (.GX) 447:=Mq (m:=.disable) ⟨f447,E7,E7,E7,E7,E7⟩
def an2:cN Tryz.prog C (.a0p .i32) 448:=a8R ⟨f448,E7,E7,E7,E7,E7⟩
def an1:cN Tryz.prog C (.GX) 449:=Mq (m:=.enable) ⟨f449,E7,E7,E7,E7,E7⟩
def an0:cN Tryz.prog C (.race) 450:=Mo (m:=.acquire) ⟨f450,E7,E7,E7,E7,E7⟩
def amZ:cN Tryz.prog C (.race) 452:=Mo (m:=.releaseMerge) ⟨f452,E7,E7,E7,E7,E7⟩
def amY:cN Tryz.prog C (.IA .i32) 453:=UG ⟨f453,E7,E7,E7,E7,E7⟩
def an4:cN Tryz.prog C (.Ap) 436:=Mt ⟨f436,E7,E7,E7,E7,E7⟩
def an7:cN Tryz.prog C (.GY 5) 406:=RI (ps:=f406.params) (t:=f406.resultTypes[0]!) E7 E7 ⟨f406,E7,E7,E7,E7,E7⟩
end
end Go.Ev
namespace Go.Ev
open Go Go.Maps Go.MapKept
open Go.RowKit (Below)
open Go.WideElems (Fit rd rg)
variable{h h':Heap}{c el i m:Nat}{w':World}{zs:ay}
section
variable {P:Program} {C:Ctx} {ρ:Ren}
def aO.grown{w:World}{o:O}{aF1:pE}(r:aO P C ρ h w)
  (hw:Below w.heap.size w w') (hb:w.heap.size<=aF1.b) (LO:aF1.b<w'.heap.size) (hn:h'.nx=h.nx+1) (hg:∀j,bL j h'=if j=h.nx then o else bL j h)
  (ho:fL P (ext1 ρ h.nx aF1) o aF1 w'.heap[aF1.b]?):
  aO P C (ext1 ρ h.nx aF1) h' w'/\Le ρ h w (ext1 ρ h.nx aF1) h' w':=by
 unfold ext1 at ho ⊢;have yj:∀i D,ρ i=some D->(if i=h.nx then some aF1 else ρ i)=some D:=λi D hi=>by rw[aj (by have:=(r.pW i D hi).1;omega)];trivial
 have hold:∀b,b<w.heap.size->w'.heap[b]? =w.heap[b]? :=hw.block;have hs:=hw.size;refine⟨⟨λi D hi=>?_,λi D hi=>?_,λi j D E hi hj li lj he=>?_,λg cs hgl=>?_⟩,⟨yj,hs,λb hb' hm=>⟨W,?_⟩,Z,λi hi h0=>W,hw.os,hw.output⟩⟩
 .by_cases h1:i=h.nx
  .grind
  .simp only[h1,if_false] at hi;have:=r.pW i D hi;omega
 .by_cases h1:i=h.nx
  .grind
  .simp only[h1,if_false] at hi;rw[hg,aj h1,hold _ (r.pW i D hi).2];exact(r.obj i D hi).mono yj
 .by_cases h1:i=h.nx<;>by_cases h2:j=h.nx
  .omega
  .simp only[h1,h2,if_true,if_false] at hi hj;cases hi;have:=(r.pW j E hj).2;omega
  .simp only[h1,h2,if_true,if_false] at hi hj;cases hj;have:=(r.pW i D hi).2;omega
  .simp only[h1,h2,if_false] at hi hj;rw[hg,aj h1] at li;rw[hg,aj h2] at lj;exact r.inj i j D E hi hj li lj he
 .obtain ⟨h1,xs,t,fr,h2,h3⟩:=r.iP g cs hgl;have hgs:g<w.heap.size:=by
   rcases dN g w.heap.size with h|h
   .exact h
   .grind
  refine⟨λi D hi li ti=>?_,xs,t,fr,W,λj v hv=>let ⟨x,a,b⟩:=h3 j v hv;⟨x,a,b.mono yj⟩⟩;grind
 .rintro ⟨i,D,hi,he,hl⟩;by_cases h1':i=h.nx
  .grind
  .simp only[h1',if_false] at hi;rw[hg,aj h1'] at hl;exact hm ⟨i,D,hi,he,hl⟩
def aO.below{w:World}(r:aO P C ρ h w)(hw:Below w.heap.size w w'):aO P C ρ h w'/\Le ρ h w ρ h w':=by have hold:∀b,b<w.heap.size->w'.heap[b]? =w.heap[b]? :=hw.block;have hs:=hw.size;refine⟨⟨λi D hi=>⟨(r.pW i D hi).1,by have:=(r.pW i D hi).2;omega⟩,λi D hi=>by rw[hold _ (r.pW i D hi).2];exact r.obj i D hi,r.inj,λg cs hgl=>?_⟩,λ_ _ h=>h,hs,λb hb hm=>W,Z,λ_ _ h=>G,hw.os,hw.output⟩;obtain⟨h1,xs,t,fr,h2,h3⟩:=r.iP g cs hgl;grind
def YR{hp:Heap}{w:World}{g s z:Nat}{cs:ay}{xs:List Value}{cur:Array Value}{k:Nat->Heap->Bool}(hH:aO P C ρ hp w)(hr:cG ρ cs xs)(h1:∀v∈cs,v.de=true)(hm:cs.length=m)(hz:P.cellsOf el=z)
  (hw:Below w.heap.size w w') (hb:w.heap.size<=g) (aq0:w'.heap[g]? =some (.cells cur el (0,0))) (YG:cur.size=s*z) (hmc:m<=cur.size) (Hz:∀j,j<m->cur[j]? =xs[j]?) (h:ey el m 0 zs cs hp k=true):
  ∃tV,k hp.nx tV=true/\aO P C (ext1 ρ hp.nx ⟨g,s,z⟩) tV w'/\Le ρ hp w (ext1 ρ hp.nx ⟨g,s,z⟩) tV w':=by
 unfold ey at h;obtain⟨c,h,hc⟩:=eQ h;obtain⟨c',h,YN⟩:=jI h;obtain⟨tV,hk,hn,hg⟩:=eE h;have yj:∀i D,ρ i=some D->ext1 ρ hp.nx ⟨g,s,z⟩ i=some D:=λi D hi=>by unfold ext1;rw[aj (by have:=(hH.pW i D hi).1;omega)];trivial
 have YF:xs.length=m:=by rw[←hr.1];exact hm
 have mO:g<w'.heap.size:=by
  rcases dN g w'.heap.size with h|h
  .exact h
  .grind
 refine⟨tV,hk,hH.grown hw hb mO hn hg (o:=.row el m 0 false zs c') ?_⟩;show fL P (ext1 ρ hp.nx ⟨g,s,z⟩) (.row el m 0 false zs c') ⟨g,s,z⟩ w'.heap[g]?;rw[aq0];refine⟨cur,(0,0),rfl,λ_=>YG,λ_=>hz,hmc,λh=>G,Z,λj hj=>?_⟩;have LM:j<cs.length:=Z;have Aq:j<xs.length:=Z;have yi:=h1 _ (eL LM);refine .inr ⟨cs[j],xs[j],jN ?_ (λhe=>by rw[he] at yi;trivial),?_,yi,(hr.2 j _ _ (bT LM) (bT Aq)).mono yj⟩
 .rw [YN j,ao Z];simp[LM]
 grind
def a3t{x:Nat}{l:aI}(h:a81 x l=true):x∈l:=by
 induction l with
 |nil=>trivial
 |cons y t ih=>
  rcases bK.1 G with⟨h1,_⟩|⟨_,h1⟩
  .rw [br h1];grind
  .exact ia _ (ih h1)
def Dg:Nat->Nat->aI->Prop
 |a,c,[]=>a<=c
 |a,c,x::r=>a<=x/\Dg (x+1) c r
def QI{es:List (V×V×Nat)}{a:Nat}{k:aI->Bool}(h:Cc es c a k=true):
  ∃ks,k ks=true/\es.map (·.1)=ks.map V.num/\Dg a c (es.map (·.2.2)):=by
 induction es generalizing a k with
 |nil=>obtain⟨h1,h2⟩:=aN.1 G;exact⟨[],h2,rfl,bh h1⟩
 |cons x r ih=>obtain⟨q,y,b⟩:=x;obtain⟨h1,h2⟩:=aN.1 G;obtain⟨n,rfl,h3⟩:=V.qP.1 h2;obtain⟨ks,hk,h4,h5⟩:=ih h3;exact⟨n::ks,hk,W,⟨bh h1,h5⟩⟩
def YE{x:Nat}{l:aI}{k:aI->Bool}(h:a3Y x l k=true):∃l',k l'=true/\l'.Perm (x::l):=by
 induction l generalizing k with
 |nil=>exact⟨[x],h,G⟩
 |cons y t ih=>
  rcases bK.1 G with⟨_,h1⟩|⟨_,h1⟩
  .grind
  .obtain ⟨l',hk,hp⟩:=ih h1;exact⟨y::l',hk,(hp.cons y).trans (.swap _ _ _)⟩
def OO{l:aI}{k:aI->Bool}(h:Eb l k=true):∃l',k l'=true/\l'.Perm l:=by
 induction l generalizing k with
 |nil=>exact⟨[],h,G⟩
 |cons x r ih=>obtain⟨l1,h1,p1⟩:=ih G;obtain⟨l2,h2,p2⟩:=YE h1;grind
def OV{l:aI}{a:Nat}{k:Bool}(h:Eg l a k=true):k=true/\(∀x∈l,a<=x)/\l.Pairwise (· < ·):=by
 induction l generalizing a with
 |nil=>exact⟨h,J1,G⟩
 |cons x r ih=>
  obtain⟨h1,h2⟩:=aN.1 G;have h1:=bh h1;obtain⟨h3,h4,h5⟩:=ih h2;refine⟨h3,λy hy=>?_,.cons (λy hy=>?_) h5⟩
  .grind
  grind
def Dg.spec{a:Nat}{l:aI}(h:Dg a c l):(∀x∈l,a<=x/\x<c)/\l.Nodup/\a<=c:=by
 induction l generalizing a with
 |nil=>exact⟨J1,G,h⟩
 |cons x r ih=>obtain⟨h1,h2⟩:=h;grind
def insert_perm{H:Type}(x:Lit×DataW H)(l:List (Lit×DataW H)):(DataW.insert x l).Perm (x::l):=by
 induction l with
 |nil=>trivial
 |cons y r ih=>
  unfold DataW.insert;split
  .trivial
  .exact (ih.cons y).trans (.swap _ _ _)
def p8{H:Type}(l:List (Lit×DataW H)):(l.foldr DataW.insert []).Perm l:=by
 induction l with
 |nil=>trivial
 |cons x r ih=>exact(insert_perm x _).trans (ih.cons x)
structure Nl(P:Program)(f g:FuncId)(e:TypeId):Prop where
 key:P.underlying e=some (.int .i64)
 one:P.cellsOf e=1
 enters:∀args w,(callFunc f args).run P w= .ok (.enter f args) w
 full:∀(b nn Bm:Nat) (D0:DataW Unit) (R:Value->Option (DataW Unit×List MemPlace)) (w:World),w.ownsMap P e R b nn D0->Maps.size D0<=65536->Bm<w.heap.size->w.cell? ⟨Bm,0,none⟩=some (.map (some b))->
  Calls P f #[.func (.func g) #[] #[.pointer (some ⟨Bm,0,none⟩)]] w λx w'=>∃(v:Value) (ss:dC),x= .returned v/\ss.Perm (intKeys D0)/\
   w'.ownsRow w.heap.size e 1 v ss.length ((ss.mergeSort (λx y=>decide (x<=y))).map encZ)/\(v= .slice none 0 0↔ss= [])/\Below w.heap.size w w'
 none:∀(Bm:Nat) (w:World),Bm<w.heap.size->w.cell? ⟨Bm,0,none⟩=some (.map none)->
  Calls P f #[.func (.func g) #[] #[.pointer (some ⟨Bm,0,none⟩)]] w λx w'=>x= .returned (.slice none 0 0)/\Below w.heap.size w w'
def yS{w:World}{aF1:pE}{es:List (V×V×Nat)}{ks:aI}{e:TypeId}(hH:aO P C ρ h w)(hB:ρ i=some aF1)(hg:bL i h= .map es c)
  (hk:es.map (·.1)=ks.map V.num) (hr:Dg 0 c (es.map (·.2.2))) (Cq:ks.Nodup) (he:P.underlying e=some (.int .i64)) (hl:ks.length<=65536):
  ∃D0:DataW Unit,w.ownsMap P e (λ_=>some (.nil,[])) aF1.b ks.length D0/\Maps.size D0=ks.length/\(intKeys D0).Perm (ks.map (λn:Nat=>(n:Int))):=by
 have hO:=hH.obj i aF1 hB;rw[hg] at hO;obtain⟨ms,h1,h2,h3⟩:=hO;have hlen:es.length=ks.length:=by simpa using congrArg List.length hk
 have yn:∀(j:Nat) m,ms[j]? =some m->∃(n:Nat),ks[j]? =some n/\n<=cO/\m.key= .int .i64 (n:Int)/\(es.map (·.2.2))[j]? =some m.born:=by
  intro j m hm;have hj:j<ms.size:=by
   rcases dN j ms.size with h|h
   .exact h
   .grind
  have LM:j<es.length:=Z;have Aq:j<ks.length:=Z;have hE:=h3 j es[j] m (bT LM) hm;have apD:(es[j]).1=V.num ks[j]:=by
   have:=congrArg (·[j]?) hk
   simpa [LM,Aq] using this
  have hK:=hE.key;rw[apD] at hK;refine⟨ks[j],bT Aq,?_,?_,by simp[LM,hE.born]⟩
  .generalize m.key=mk at hK;cases hK;assumption
  .generalize m.key=mk at hK;cases hK;rfl
 have a4i:ms.toList.map (·.born)=es.map (·.2.2):=by
  apply FJ;intro j;rcases hm:ms[j]? with _|m
  .grind
  .grind
 have aim:ms.toList.map (·.key)=ks.map (λn:Nat=>Value.int .i64 (n:Int)):=by
  apply FJ;intro j;rcases hm:ms[j]? with _|m
  .grind
  .grind
 obtain⟨r1,r2,_⟩:=hr.spec;have hrd:∀m∈ms.toList,∃n:Nat,m.key= .int .i64 (n:Int)/\rd P e (λ_=>some ((.nil:DataW Unit),[])) m=some (.int .i64 (n:Int),.nil):=by
  intro m hm;obtain⟨j,hj,rfl⟩:=jm hm;obtain⟨n,_,h4,h5,_⟩:=yn j ms[j] (mL G);have hw:(Lit.int .i64 (n:Int)).wf=true:=by have e1:IntKind.i64.min= -9223372036854775808:=I;have e2:IntKind.i64.max=9223372036854775807:=I;unfold cO at h4;simp[Lit.wf,e1,e2];omega
  have hko:=keyOf_int_mk he hw;refine⟨n,G,?_⟩;simp only[Array.getElem_toList] at h5 ⊢;simp[rd,h5,hko]
 refine⟨.map ((ms.toList.map (rg P e _)).foldr DataW.insert []),⟨ms,c,h1,⟨by simp[maxLen];omega,⟨λm hm=>?_,W,?_⟩,W⟩,Z,rfl⟩,?_,?_⟩
 .have:m.born∈es.map (·.2.2):=by rw[←a4i];exact W
  grind
 .grind
 .rw [Maps.size_eq,(p8 _).length_eq];grind
 .have hp:(intKeys (DataW.map ((ms.toList.map (rg P e (λ_=>some ((.nil:DataW Unit),[])))).foldr DataW.insert []))).Perm ((ms.toList.map (rg P e (λ_=>some ((.nil:DataW Unit),[])))).map λp=>intOf p.1):=(p8 _).map _;refine hp.trans (.of_eq ?_);rw[lE];have h6:ms.toList.map (λm=>intOf (rg P e (λ_=>some ((.nil:DataW Unit),[])) m).1)=(ms.toList.map (·.key)).map (λv=>match v with | .int _ n=>n|_=>0):=by
   rw[lE];refine NS λm hm=>?_;obtain⟨n,h4,h5⟩:=hrd m hm;simp[rg,h5,h4,intOf]
  exact h6.trans (by rw[aim,lE];rfl)
def YA{ks:aI}(h:∀n∈ks,n<=cO):cG ρ (ks.map V.num) (ks.map λn:Nat=>encZ (n:Int)):=
 ⟨J1,λj u v hu hv=>by
  rcases hn:ks[j]? with _|n
  .grind
  .simp [hn] at hu hv;subst hu;subst hv;exact .num n (h n W)⟩
def RH{f:FuncId}{e:TypeId}{fs:aI}(hf:∀g∈fs,Nl P f g e):cN P C (.sorted e fs) f:=by
 intro args h k ρ xs w hx hr hH;obtain⟨v,x,hl,hv,hx⟩:=CZ hr hx;rcases V.nI.1 hx with⟨g,a,b,rfl,hx⟩|⟨i,_,hx⟩
 case inr=>trivial
 obtain⟨hm,hx⟩:=aN.1 hx;have hS:=hf g (a3t hm);cases hv with|fn _ _ _ x y ha hb ra rb=>
 obtain⟨ha0,hx⟩:=a5H (ρ:=ρ) (l:=x.toList) ⟨by simpa using ha,by simpa using ra⟩ hx;obtain⟨p,q,hq,hp,hx⟩:=CZ (ρ:=ρ) (l:=y.toList) ⟨by simpa using hb,by simpa using rb⟩ hx;obtain rfl:x= #[]:=W;obtain rfl:y= #[q]:=W;obtain⟨j,o,aF1,hB,rfl,hx⟩:=fv hp hx;obtain⟨ho,hx⟩:=aN.1 hx;obtain rfl:o=0:=br ho;obtain⟨m,z,hx,hmz,_,hc⟩:=lJ hH hB hx;have zA:=(hH.pW j aF1 hB).2;obtain rfl:xs= #[.func (.func g) #[] #[.pointer (some ⟨aF1.b,0,none⟩)]]:=W;refine .inr ⟨hS.enters _ _,(callsIn_wide (n:=0)).2 ?_⟩;rcases V.dJ.1 hx with⟨i,rfl,hx⟩|⟨rfl,hx⟩
 .obtain ⟨D,hD,rfl⟩:∃D,ρ i=some D/\z= .map (some D.b):=by
   cases hmz with|map _ D hD=>grind
  obtain⟨es,c,hg,hx⟩:=O.dJ.1 hx;obtain⟨ks,hx,hk,hri⟩:=QI hx;rcases yN.1 hx with⟨rfl,hx⟩|⟨k0,kt,rfl,hx⟩
  .obtain ⟨D0,r8,YG,ahY⟩:=yS (e:=e) hH hD hg hk hri G hS.key J1;refine(hS.full D.b _ aF1.b D0 _ w r8 W zA hc).mono ?_;rintro e' w' ⟨v,ss,rfl,hp,ny,a8s,HH⟩;obtain rfl:ss= []:=(hp.trans ahY).eq_nil;obtain rfl:=a8s.2 rfl;obtain⟨kO,hL⟩:=hH.below HH;exact⟨_,rfl,.au,h,ρ,hx,.au,kO,hL⟩
  .obtain ⟨ss,hx,yl⟩:=OO hx;obtain⟨hx,_,hpw⟩:=OV hx;rw[bB,j9,ea,dx] at hx;obtain⟨hn,hx⟩:=aN.1 hx;have hn:=bh hn;rw[dT] at hn hx;have Cq:(k0::kt).Nodup:=yl.nodup_iff.1 (hpw.imp Z);have hlen:ss.length=(k0::kt).length:=yl.length_eq;obtain⟨D0,r8,YG,ahY⟩:=yS (e:=e) hH hD hg hk hri Cq hS.key Z;refine(hS.full D.b _ aF1.b D0 _ w r8 Z zA hc).mono ?_;rintro e' w' ⟨v,is,rfl,hp,ny,a8s,HH⟩;have hle:∀n∈ss,n<=cO:=by
    intro n hn;have:n∈(k0::kt):=W;have hv:V.num n∈es.map (·.1):=by rw[hk];exact W
    obtain⟨y,hy,he⟩:=fA.1 hv;obtain⟨t,ht,rfl⟩:=jm hy;have hO:=hH.obj i D hD;rw[hg] at hO;obtain⟨ms,_,h2,h3⟩:=hO;have:=(h3 t es[t] (ms[t]' Z) (bT ht) (mL Z)).key;rw[he] at this;generalize (ms[t]' Z).key=mk at this;cases this;assumption
   have aap:is.Perm (ss.map λn:Nat=>(n:Int)):=W;have ahQ:is.mergeSort (λx y=>decide (x<=y))=ss.map λn:Nat=>(n:Int):=by have e0:(λx y:Int=>decide (x<=y))=Go.leI:=rfl;rw[e0,mergeSort_of_perm_i aap];refine List.mergeSort_of_pairwise ?_;refine uA.2 (hpw.imp λh=>?_);simp only[Go.leI,uI];omega
   rw[ahQ,lE] at ny;have hil:is.length=ss.length:=by simpa using aap.length_eq
   rw[hil] at ny;rcases ny.2 with⟨_,hz⟩|⟨gb,cap,cur,rfl,aiG,QV,r1,r2,r3,r4⟩
   .grind
   obtain⟨h',hk',kO,hL⟩:=YR (s:=cap) (z:=1) hH (YA hle) (by intro v hv;obtain⟨n,_,rfl⟩:=fA.1 hv;rfl) J1 hS.one HH aiG QV r3 Z (λt ht=>by have:=congrArg (·[t]?) r4;simp only[Om] at this;rw[ao Z] at this;rw[jq] at this;exact this) hx;exact⟨_,rfl,.sl h.nx 0 ss.length (.less 0 1),h',_,hk',.sl _ _ _ _ _ ⟨gb,cap,1⟩ G8 G G,kO,hL⟩
 .obtain rfl:z= .map none:=by cases hmz;rfl
  refine(hS.none aF1.b w zA hc).mono ?_;rintro e' w' ⟨rfl,HH⟩;obtain⟨kO,hL⟩:=hH.below HH;exact⟨_,rfl,.au,h,ρ,hx,.au,kO,hL⟩
end
end Go.Ev
