import Derived.Test.YthpffinbkpnniaaGreatDoorM20
set_option linter.all false
set_option maxRecDepth 100000
namespace Go.Ev.Sy
open Go Go.Ev Go.Proofs
open Tryz
noncomputable section
@[grind] def PAs(c:Nat):Prop:=32<=c/\c<=43
section
variable {own:aG} {f:av} {m X aEY N d:Nat} {b:Bs} {a:nC}
def a9n{R:Rt}(H:cY own f m X b aEY b.ts.length d a)(h n:Int)(g:h<=9223372036854775807)(hl:b.ts.length<200):
  Cl R.Y.Y.Y.Y.Y.Y.Y.Y 136 [.ptr X 0,Q h,Q n] f m (λu y L=>(∃e:Int,e≠0/\u= .cI [Q 0,Q e]/\B f m y L)\/u= .cI [Q (b.ts.length+1:Nat),Q 0]/\gU b.gen b.op h/\∃k:Nat,n=k/\jj.Nu.e (b.acc (hP h)) k=0/\∃t,(∃a',cY t y L X {b with acc:=qi .Nu b.acc (hP h) k,ts:=b.ts++ [⟨b.ts.length+1,hP h,k,1,0⟩]} aEY (b.ts.length+1) d a')/\Fr PAs own f m t y L):=by
 intro k S E;refine cUx func136 ?_;simp only[go_sem, ↓ag 209];apply(sP H h g).bu;rintro v r l ⟨rfl,P⟩;have A:=H.gr P;have hX:=A.aX.obj;by_cases c:gU b.gen b.op h
 case neg=>rw[aj c];have ce:=rB c;refine zS ?_;grind
 have hp:=H.TM c.2.1;rw[ao c];simp only[go_sem,hX, ↓ag 210];apply(Hp A.ue h g c n).bu;rintro u f2 C ⟨rfl,⟨la,F⟩,o,hgr⟩;by_cases ce:jj.Nu.e (b.acc (hP h)) n=0
 case neg=>refine zS ?_;exact E _ _ _ (.inl ⟨_,ce,rfl,P.trans W⟩)
 have LK:1<=n/\n<=1048576:=by
  unfold jj.e at ce;split at ce
  .trivial
  .split at ce
   .rename_i h;exact⟨h.1,h.2.1⟩
   trivial
 obtain⟨j,rfl⟩:∃j:Nat,n=j:=⟨n.toNat,Z⟩;have z:=(A.aX.ah o I).obj;have hB2:=A.bk.ah o I;simp only[go_sem,ce,z, ↓ag 211];apply(Sx hB2 (hP h) j Z Z Z hl).bu;rintro u N s ⟨rfl,g9,⟨w,UA⟩,p⟩;have n9:¬PB 9:=O1;have M:=((A.aX.ah o I).ah p n9);have oX3:=M.obj;have Rv:=(A.qu.ah o I).ah p O1;simp only[go_sem,oX3, ↓ag 213];apply(a7o Rv (hP h) hp Z).bu;rintro u f4 m4 ⟨rfl,⟨x,hQ4⟩,i⟩;refine zS ?_;have nQ:∀c,PQ c->c=37\/c=38\/c=39\/c=42\/c=43:=λ_ h=>h;exact E _ _ _ (.inr ⟨rfl,c,j,rfl,ce,g9,⟨{a with la:=la,b:=w,q:=x},⟨M.ah i W,(F.ah p O1).ah i W,((A.re.ah o (λc h=>W3) I I).ah p (λc h=>Y1) G O1).ah i (λc h=>U9) W W,UA.ah i W,hQ4,((A.pu.ah o I Z).ah p O1 (λc _ _=>O1)).ah i W (λc _ _=>W)⟩⟩,(((P.fr own PAs).trans o (λ_ h=>h) (λ_ h=>by unfold PAs;omega)).trans p (λ_ h=>h) (λ_ h=>Jf)).trans i (λ_ h=>h) (λ_ h=>Jg)⟩)
def Sv{R:Rt}(H:cY own f m X b aEY N d a)(h n:Int)(g:h<=9223372036854775807)(hd:d<=1048576)(hcr:∀(j:Nat) (hj:j<b.ts.length),b.ts[j].s=1->(b.ts[j].n:Int)<=(b.acc b.ts[j].c).r):
  Cl R.Y.Y.Y.Y.Y.Y.Y.Y 137 [.ptr X 0,Q h,Q n] f m (λu y m'=>(∃e:Int,e≠0/\u=Q e/\B f m y m')\/u=Q 0/\gU b.gen b.op h/\∃(j:Nat) (hj:j<b.ts.length),b.ts[j].c=hP h/\b.ts[j].s=1/\∃t,(∃a',cY t y m' X {b with acc:=qi .IQ b.acc (hP h) b.ts[j].n,ts:=b.ts.set j {b.ts[j] with s:=3}} aEY N (d+1) a')/\Fr PAs own f m t y m'):=by
 intro k S E;refine cUx func137 ?_;simp only[go_sem, ↓ag 209];apply(sP H h g).bu;rintro v f1 l ⟨rfl,P⟩;have A:=H.gr P;have hX:=A.aX.obj;by_cases c:gU b.gen b.op h
 case neg=>rw[aj c];have ce:=rB c;refine zS ?_;grind
 have hp:=H.TM c.2.1;rw[ao c];simp only[go_sem,hX, ↓ag 214];apply(x9 A.bk n).bu;rintro v f2 C ⟨hv,o⟩;by_cases hn:∃j:Nat,n=(j+1:Nat)/\j<b.ts.length
 case neg=>
  obtain rfl:v= .cI [.agg [Q 0,Q 0,Q 0,Q 0,Q 0],Q 12]:=by grind
  simp only[go_sem];exact E _ _ _ (.inl ⟨12,I,rfl,(P.trans o).trans (B.w (m2:=C) Qc E1)⟩)
 obtain⟨j,rfl,hj⟩:=hn;obtain rfl:v= .cI [.agg [Q b.ts[j].i,Q b.ts[j].c,Q b.ts[j].n,Q b.ts[j].s,Q b.ts[j].p],Q 0]:=by rw[hv,ao Z,show((j+1:Nat):Int).toNat-1=j by omega,bT hj]
 have H2:=A.gr o;have DM:=H2.aX.obj;have nX:X≠C:=by have:=H2.aX.lt;omega
 by_cases c2:b.ts[j].c=hP h
 case neg=>have c2':¬((b.ts[j].c:Nat):Int)=(hP h:Nat):=Z;simp only[go_sem,c2'];exact E _ _ _ (.inl ⟨12,I,rfl,(P.trans o).trans (B.w (m2:=C) Qc E1)⟩)
 have c2':((b.ts[j].c:Nat):Int)=(hP h:Nat):=Z;simp only[go_sem,c2',DM,nX, ↓ag 215];refine aP ?_;intro F hF;have q0:B f2 C F (pl C 1):=by rw[hF];exact(B.w (m2:=C) Qc E1)
 have H3:=H2.gr q0;have a0:F C=(.row 49 5 0 true [.num 0,.num 0,.num 0,.num 0,.num 0] (.cf (laid 0 [Q b.ts[j].i,Q b.ts[j].c,Q b.ts[j].n,Q b.ts[j].s,Q b.ts[j].p] (zf [.num 0,.num 0,.num 0,.num 0,.num 0])))):=O7;apply(MS H3.bk j hj).bu;intro u f4 m4 L;by_cases c3:b.ts[j].s=1
 case neg=>rw[aj c3] at L;obtain⟨rfl,q4⟩:=L;refine zS ?_;exact E _ _ _ (.inl ⟨13,I,rfl,((P.trans o).trans q0).trans q4⟩)
 rw[ao c3] at L;obtain⟨rfl,⟨ba,hB4⟩,q4⟩:=L;have nP:¬PB 9:=O1;have om:own C=0:=H.z C (cL P.le o.le);have YO:=H3.aX.ah q4 nP;have oX4:=YO.obj;have a4:=(q4.ah C O6 (by rw[om];unfold PB;omega)).trans a0;have hQ4:=H3.qu.ah q4 O1;simp only[go_sem,oX4, ↓ag 216];apply(JZ hQ4 (j+1:Nat) hd).bu;rintro u f5 m5 ⟨⟨eq,rfl⟩,fQ,⟨qa,hQ5⟩,M⟩;have nQ:¬PQ 9:=V0;have hX5:=YO.ah M nQ;have oX5:=hX5.obj;have a5:=(M.ah C (by have:=q4.le;trivial) (by rw[om];unfold PQ;omega)).trans a4;have hL5:=(H3.ue.ah q4 O1).ah M V0;simp only[go_sem,oX5,a5, ↓ag 212];apply(Lx hL5 h g c b.ts[j].n).bu;rintro u f6 m6 ⟨rfl,⟨la,hl6⟩,x,_⟩;have hTk:=H.bk.ok b.ts[j] W;have Up:jj.IQ.e (b.acc (hP h)) b.ts[j].n=0:=a5e (H.ue.s.ok _ c.2.1) (by have:=hTk.2.2.1;omega) W;have a6:=(x.ah C (by have:=q4.le;have:=M.le;unfold pl at *;omega) (by rw[M.same C (by have:=q4.le;trivial),om];decide)).trans a5;rw[Up];have oX6:=(hX5.ah x I).obj;refine zS ?_;exact E _ _ _ (.inr ⟨rfl,c,j,hj,c2,c3,fQ,⟨{a with la:=la,b:=ba,q:=qa},⟨hX5.ah x I,hl6,((H3.re.ah q4 (λc h=>Y1) G O1).ah M (λc h=>U9) G V0).ah x (λc h=>W3) I I,(hB4.ah M V0).ah x I,hQ5.ah x I,((H3.pu.ah q4 O1 (λc _ _=>O1)).ah M V0 (λc _ _=>V0)).ah x I Z⟩⟩,(((((P.trans o).trans q0).fr own PAs).trans q4 (λ_ h=>h) (λ_ h=>Jf)).trans M (λ_ h=>h) (λ_ h=>Jg)).trans x (λ_ h=>h) (λ_ h=>by unfold PAs;omega)⟩)
end
section
variable {own:aG} {f:av} {m X aEY N d:Nat} {b:Bs} {a:nC}
def Sj{R:Rt}(H:cY own f m X b aEY N d a)(hl:∀p,(b.pu p).length<=64):
  Cl R.Y.Y.Y.Y.Y 241 [.ptr X 0] f m (λv f' m'=>(∃is:dC,is.length<=64/\ll f' m' v is/\∀x o n c,v= .sl x o n c->m<=x)/\B f m f' m'):=by
 intro k T hk;have hX:=H.aX.obj;refine cUx func241 ?_;simp only[go_sem,hX, ↓ag 43];apply(nq H.ue).bu;rintro v r l ⟨P,os,hpw,Dm,Dn,hI,_⟩;have tI:=λq=>hI.jD Z q;obtain⟨t1,t2,t3,t4⟩:=bV hI;by_cases h0:os.length=0
 .have e0:((os.length:Nat):Int)=0:=by omega
  refine zS ?_;exact hk _ _ _ ⟨⟨[],J1,.inl ⟨rfl,rfl⟩,W⟩,P⟩
 have e0:¬((os.length:Nat):Int)=0:=Z;have A:∀i (h:i<os.length),os[i]<64:=λi h=>H.TM W;obtain⟨L,hL0⟩:∃L,L=os[os.length-1]:=W;have hle:∀i (h:i<os.length),os[i]<=L:=λi h=>by
  rw[hL0];by_cases e:i=os.length-1
  .grind
  .exact Nat.le_of_lt ((Oh.1 hpw) i (os.length-1) h Z Z)
 have hL:L<64:=by rw[hL0];exact W
 obtain⟨x,o,S,mm,fz,w,zs,g,rfl,hx,hf,nz,k0,k1,k2,k3⟩:=xY hI (show os.length-1<os.length by omega);rw[←hL0] at k0;have ew0:IntKind.i64.wrap ((os.length:Int)-1)=((os.length-1:Nat):Int):=Ql;have ew1:IntKind.i64.wrap ((L:Int)+1)=((L+1:Nat):Int):=Qf;have c0:(0:Int)<=((os.length-1:Nat):Int):=Z;have c1:os.length-1<os.length:=Z;have c2:o+(os.length-1)*4<mm:=Z;have d0:(0:Int)<=((L+1:Nat):Int):=Z;have d1:L+1<=4294967296:=Z;have d2:8*(L+1)<=281474976710656:=Z;have d3:L+1<=9223372036854775807:=Z;simp only[go_sem,t1,tI,e0,hf,k0,ew0,ew1,c1,c2,d1,d2];refine uV ?_;intro F hF;have qF:B r l F (pl l 1):=Wh;have a0:F l=(.row 3 (L+1) 0 true [.num 0] (.cf (zf [.num 0]))):=O2;have s:=DH;refine cU (x:=.exit 0) (n:=os.length+1) (aF0:=λrem e f' m'=>∃(j:Nat) (gi:dc) (gg:dA),j+rem=os.length+1/\1<=rem/\B r l f' m'/\l<m'/\f' l=(.row 3 (L+1) 0 true [.num 0] (.cf gg))/\(∀q,q<L+1->gg q=Q (gi q))/\(eg 0).get e= .ptr X 0/\(eg 4).get e= .sl l 0 (L+1) (.known (L+1))/\(eg 24).get e= .sl x o os.length S/\(eg 25).get e=Q os.length/\(eg 26).get e=Q j)
  (E:=λe f' m'=>∃(gi:dc) (gg:dA),B r l f' m'/\l<m'/\f' l=(.row 3 (L+1) 0 true [.num 0] (.cf gg))/\(∀q,q<L+1->gg q=Q (gi q))/\(eg 4).get e= .sl l 0 (L+1) (.known (L+1))) ?_ J2 ?_ ?_
 .exact ⟨0,λ_=>0,zf [.num 0],Z,Z,qF,W,a0,λq _=>(nU _ q).trans s,E6,E6,E6,E6,E6⟩
 .rintro rem e f2 C ⟨j,gi,gg,hjr,Hy,q2,lm,hm,hg,e0,e4,e24,e25,e26⟩ rr kx lR hE;unfold iB;by_cases z:j<os.length
  case neg=>have Ut:¬((j:Int)<os.length):=Z;refine zS ?_;exact hE _ _ _ ⟨gi,gg,q2,lm,hm,hg,e4⟩
  have Ut:((j:Int)<os.length):=Z;obtain⟨x',u,cp',mm',fz',w',zs',g',t,hx',hf',YI,k0',k1',k2',k3'⟩:=xY (hI.gr q2) z;cases t;have H2:=(H.gr P).gr q2;have hX:=H2.aX.obj;have hM:=H2.pu.am.obj;have hp:=A j z;obtain⟨wv,hw,hs⟩:=Au H2 os[j] hp;have hlw:=λq=>hs.jD W q;have ew2:IntKind.i64.wrap ((j:Int)+1)=((j+1:Nat):Int):=Qf;have c5:o+j*4+4<=mm':=Z;have nX:X≠C:=by have:=H2.aX.lt;omega
  have nM:a.M≠C:=by have:=H2.pu.am.lt;omega
  have n1:l≠C:=Z;have hjL:os[j]<L+1:=by have:=hle j z;omega
  simp only[go_sem,e0,e4,e24,e25,e26,Ut,hf',k0',k1',k2',k3',hX,hM,hw,hlw,ew2,c5,z,nX,nM,n1,hm,hjL];refine lR (rem-1) _ _ _ Z ⟨j+1,λq=>if q=os[j] then(b.pu os[j]).length else gi q,cy gg os[j] (Q (b.pu os[j]).length),Z,Z,⟨by have:=q2.le;unfold pl;omega,λy hy=>?_⟩,W,aK ..,λq hq=>?_,E6,E6,E6,E6,E6⟩
  .rw [aE Z,aE Z,aE Z];exact q2.ah y hy
  .show cy gg os[j] _ q=Q (if q=os[j] then((b.pu os[j]).length:Nat) else gi q);by_cases e:q=os[j]
   .rw [ao e,e,cd]
   .rw [a04 e,aj e];grind
 .rintro e f2 C ⟨gi,gg,q2,lm,hm,hg,e4⟩;simp only[go_sem,e4];refine hk _ _ _ ⟨⟨(List.range (L+1)).map gi,W,.inr ⟨l,0,.known (L+1),_,_,_,_,_,J1,lm,hm,J1,λj z=>?_⟩,λx o n c h=>by cases h;exact P.le⟩,P.trans q2⟩;rw[dz,hg j (by simpa using z)];simp
end
variable{j:Nat}{ge:dc}
@[grind] def VG(c:Nat):Prop:=PR c\/(32<=c/\c<=43)\/(100<=c/\c<164)
def vR(b:Bs)(p:Nat)(l ys:aI):Bs:={b with ph:=λj=>if j∈l then 1 else b.ph j,ow:=λj=>if j∈l then(p:Nat)+1 else b.ow j,xs:=ys,pu:=dE b.pu p (b.pu p++l)}
def a6Q(b:Bs)(p:Nat):vR b p [] b.xs=b:=by
 unfold vR;have:dE b.pu p (b.pu p++ [])=b.pu:=by
  funext j;unfold dE;split
  .grind
  .rfl
 rw[this];simp
def a1B(b:Bs)(p:Nat)(l ys zs)(i:Nat):vR b p (l++ [i]) ys={vR b p l zs with ph:=ib (vR b p l zs).ph i 1,ow:=eH (vR b p l zs).ow i ((p+1:Nat):Int),xs:=ys,pu:=dE (vR b p l zs).pu p ((vR b p l zs).pu p++ [i])}:=by
 have u:(vR b p (l++ [i]) ys).ph=ib (vR b p l zs).ph i 1:=by
  funext j;show(if j∈l++ [i] then 1 else b.ph j)=ib (λj=>if j∈l then 1 else b.ph j) i 1 j;unfold ib;by_cases e:j=i
  .grind
  .grind
 have a:(vR b p (l++ [i]) ys).ow=eH (vR b p l zs).ow i ((p+1:Nat):Int):=by
  funext j;show(if j∈l++ [i] then((p:Nat):Int)+1 else b.ow j)=eH (λj=>if j∈l then((p:Nat):Int)+1 else b.ow j) i ((p+1:Nat):Int) j;unfold eH;by_cases e:j=i
  .grind
  .grind
 have A:(vR b p (l++ [i]) ys).pu=dE (vR b p l zs).pu p ((vR b p l zs).pu p++ [i]):=by funext j;show dE b.pu p (b.pu p++(l++ [i])) j=dE (dE b.pu p (b.pu p++l)) p (dE b.pu p (b.pu p++l) p++ [i]) j;rw[cj,pj];unfold dE;split<;>rfl
 rw[←u,←a,←A];rfl
section
variable {own:aG} {f:av} {m X aEY N d:Nat} {b:Bs} {a:nC}
def a2p{R:Rt}{C n s z:Nat}{k:aG}{d:dc}{ys p:aI}{tk:Int}{a:Nm}(i:Nat)(H:ji own f m C n s aEY z k d ge (ys++ [i]) p tk a)(M:∀x,m<=x->own x=0)(hK:aEY<1048575)(o:Nat)(E:1<=o):
  Cl R.Y.Y.Y.Y.Y.Y.Y.Y 332 [.ptr a.S 0,Q o] f m (λv y L=>v= .cI [Q i,Q 0]/\∃t c,ji t y L C n s (aEY+1) z (ib k i 1) (eH d i o) ge ys p tk {a with A:=c}/\Fr PS own f m t y L):=by
 refine(a75 i H.st M hK o E).mono ?_;rintro v r l ⟨rfl,b,g,u,q⟩;have F:=(H.st.mem i).1 J1;refine⟨rfl,b,g,⟨H.aC.ah q X4,H.tr.ah q X4,u,H.ln.ah q X4,eh H.nx,(H.wa.ah q X4).up Z,H.ct.ah q X4,λj=>Xh,H.tk,λj=>?_,λj w=>?_,H.q1,H.q2⟩,q⟩
 .unfold ib;by_cases e:j=i
  .rw [ao e];constructor
   .intro h;have:=((H.ws j).1 h).2;grind
   omega
  .rw [aj e];exact H.ws j
 .unfold ib;split
  .decide
  .exact H.no3 j w
def gvB(b:Bs)(j:Nat)(t:Tk)(l ys:aI):Bs:={vR b t.c l ys with acc:=qi .uj b.acc t.c t.n,ts:=b.ts.set j ⟨t.i,t.c,t.n,2,t.p⟩}
def a5s{R:Rt}(H:cY own f m X b aEY N d a)(h:Int)(hh:h<=9223372036854775807)(hc:gU b.gen b.op h)(hj:j<b.ts.length)(hp:b.ts[j].c=hP h)(hs:b.ts[j].s=1)(hd:d<=1048576)(hK:aEY+64<1048575)
  (hn:b.ts[j].n<=b.xs.length) (hr:(b.ts[j].n:Int)<=(b.acc (hP h)).r) (hl:∀p,(b.pu p).length<=1000) (s0 p0:Int):
  Cl R.Y.Y.Y.Y.Y.Y.Y.Y.Y 246 [.ptr X 0,.agg [Q (j+1:Nat),Q b.ts[j].c,Q b.ts[j].n,Q s0,Q p0],Q h] f m (λu y L=>u=Q 0/\∃bo l ys,l.length=b.ts[j].n/\b.xs=ys++l.reverse/\(∃a',cY bo y L X (gvB b j b.ts[j] l ys) (aEY+b.ts[j].n) N (d+1) a')/\Fr VG own f m bo y L):=by
 intro k T hk;obtain⟨t,ht⟩:∃t,t=b.ts[j]:=W;rw[←ht] at hp hs hn hr hk ⊢;have ayS:=H.TM hc.2.1;have aoT:b.xs.length<=64:=cL (dg H.re.st.nd (λi hi=>((H.re.st.mem i).1 hi).1)) H.re.st.s.n1;have hz:=H.z;have om:own m=0:=W;refine cUx func246 ?_;simp only[go_sem];refine uV ?_;intro F hF;have q0:B f m F (pl m 1):=Vw;have a0:F m=(.row 49 5 0 true [.num 0,.num 0,.num 0,.num 0,.num 0] (.cf (bI [Q (j+1:Nat),Q t.c,Q t.n,Q s0,Q p0]))):=O7;refine cU (x:=.exit 0) (n:=t.n+1) (aF0:=λrem e y L=>∃(q:Nat) (l ys:aI) (bo:aG) (a':nC),q+rem=t.n+1/\1<=rem/\l.length=q/\b.xs=ys++l.reverse/\cY bo y L X (vR b t.c l ys) (aEY+q) N d a'/\Fr VG own f m bo y L/\bo m=0/\m<L/\y m=(.row 49 5 0 true [.num 0,.num 0,.num 0,.num 0,.num 0] (.cf (bI [Q (j+1:Nat),Q t.c,Q t.n,Q s0,Q p0])))/\(eg 0).get e= .ptr X 0/\(eg 2).get e=Q h/\(eg 4).get e= .ptr m 0/\(eg 11).get e=Q t.n/\(eg 12).get e=Q q)
  (E:=λe y L=>∃(l ys:aI) (bo:aG) (a':nC),l.length=t.n/\b.xs=ys++l.reverse/\cY bo y L X (vR b t.c l ys) (aEY+t.n) N d a'/\Fr VG own f m bo y L/\bo m=0/\m<L/\y m=(.row 49 5 0 true [.num 0,.num 0,.num 0,.num 0,.num 0] (.cf (bI [Q (j+1:Nat),Q t.c,Q t.n,Q s0,Q p0])))/\(eg 0).get e= .ptr X 0/\(eg 2).get e=Q h/\(eg 4).get e= .ptr m 0) ?_ J2 ?_ ?_
 .exact ⟨0,[],b.xs,own,a,Z,Z,rfl,J1,by rw[a6Q];exact H.gr q0,q0.fr own VG,om,O6,a0,E6,E6,E6,E6,E6⟩
 .rintro rem e f1 m1 ⟨q,l,ys,bX,a1,hqr,Hy,hlq,YF,H1,q1,xR,lm,am,e0,e2,e4,e11,e12⟩ rr kx lR hE;unfold iB;by_cases hq:q<t.n
  case neg=>have hq':¬((q:Int)<(t.n:Int)):=Z;obtain rfl:q=t.n:=Z;refine zS ?_;exact hE _ _ _ ⟨l,ys,bX,a1,hlq,YF,H1,q1,xR,lm,am,e0,e2,e4⟩
  have hq':((q:Int)<(t.n:Int)):=Z;have hyl:ys.length+l.length=b.xs.length:=by rw[YF];simp
  obtain⟨P,i,rfl⟩:∃P i,ys=P++ [i]:=by
   rcases a16 ys with h|⟨P,i,h⟩
   .grind
   grind
  have hX:=H1.aX.obj;have ew:IntKind.i64.wrap (((t.c:Nat):Int)+1)=((t.c+1:Nat):Int):=Qf;simp only[go_sem,e0,e4,e11,e12,hq',hX,am,ew, ↓ag 332];apply(a2p i H1.re H1.z Z (t.c+1) Z).bu;rintro u f2 C ⟨rfl,dm,A2,H2,o⟩;have n9:¬PS 9:=X4;have DM:=H1.aX.ah o n9;have oX2:=DM.obj;have a4l:=H1.pu.ah o X4 (λc _ _=>X4);have oM2:=a4l.am.obj;have am2:=(o.ah m lm (by rw[xR];unfold PS;omega)).trans am;have aq3:t.c<64:=Z;obtain⟨w,hw⟩:∃w,(cC a1.l t.c).getD .au=w:=W;have hsl:=a4l.sl t.c aq3;rw[hw] at hsl;have ew2:IntKind.i64.wrap ((q:Int)+1)=((q+1:Nat):Int):=Qf;have l2:m<C:=bW lm o.le;have nX:X≠C:=by have:=DM.lt;omega
  have nM:a1.M≠C:=by have:=a4l.am.lt;omega
  have nm:m≠C:=Z;simp only[go_sem,e0,e4,oX2,oM2,am2,ew,hw,hsl.tR,nX,nM,nm];refine gE ?_;intro F3 tW;have q3:B f2 C F3 (pl C 1):=We;have EW:((vR b t.c l (P++ [i])).pu t.c).length<=1000+64:=by show(dE b.pu t.c (b.pu t.c++l) t.c).length<=_;rw[cj,eZ];have:=hl t.c;omega
  refine dv (hsl.ah (q3.fr dm (λ_=>False)) id) (n':=1) rfl (qS _) Z Z ?_;intro v4 cS g v hv4 q4;have YO:=(DM.gr q3).ah q4 Z;have oX4:=YO.obj;have hM4:=(a4l.am.gr q3).ah q4 Z;have oM4:=hM4.obj;have om2:dm m=0:=(o.same m lm).trans xR;have am4:=(q4.ah m O6 Z).trans ((q3.ah m l2).trans am2);have hmu:=λF M k=>Hf 128 a1.M t.c hv4.bC F M k;have n1:X≠a1.M:=W;have nmM:m≠a1.M:=λe=>W;simp only[go_sem,e12,oX4,oM4,am4,ew2,hmu];obtain⟨aEZ,hG⟩:∃aEZ,aEZ=bw g a1.M (.map (enc (eJ a1.l t.c v4 a1.ck)) (im a1.l t.c a1.ck)):=W;rw[←hG];have qG:Fr (· =40) cS g v cS aEZ v:=by rw[hG];exact(Fr.refl _ cS g v).bw (λ_=>hM4.own)
  have q24:Fr (λc=>c=40\/c=100+t.c) dm f2 C cS aEZ v:=((q3.fr dm (λ_=>False)).trans q4 (S:=λc=>c=40\/c=100+t.c) (λ_ h=>h.elim) Z).trans qG Z Z;have qq:Fr (λc=>PS c\/c=40\/c=100+t.c) bX f1 m1 cS aEZ v:=o.trans q24 (λ_ h=>W) Z;have om4:cS m=0:=(q24.same m l2).trans om2;have n9':∀c,(c=9\/c=22\/(32<=c/\c<=39)\/(41<=c/\c<=43))->¬(PS c\/c=40\/c=100+t.c):=λc h=>X4;refine lR (rem-1) _ _ _ Z ⟨q+1,l++ [i],P,cS,{a1 with r:={a1.r with A:=A2},l:=eJ a1.l t.c v4 a1.ck,ck:=im a1.l t.c a1.ck},Z,Z,W,W,?_,q1.trans qq (λ_ h=>h) (λc h=>by rcases h with h|h;exact .inl (.inl h);exact .inr Z),om4,bW l2 q24.le,?_,E6,E6,E6,E6,E6⟩
  .rw [a1B b t.c l P (P++ [i]) i];refine⟨YO.ah qG I,H1.ue.ah qq W,H2.ah q24 (λc h=>W3) Z Z,H1.bk.ah qq W,H1.qu.ah qq W,⟨⟨X8,hM4.own,hM4.lt⟩,H1.pu.wf.set _ _,λr hr=>?_⟩⟩;show bS cS (100+r) aEZ v _ 1 ((cC (eJ a1.l t.c v4 a1.ck) r).getD .au) _ _;rw[dR];by_cases e:((t.c:Nat):Int)=r
   .obtain rfl:t.c=r:=by omega
    rw[ao rfl];show bS cS (100+t.c) aEZ v _ 1 v4 (dE (vR b t.c l (P++ [i])).pu t.c ((vR b t.c l (P++ [i])).pu t.c++ [i]) t.c).length ((dE (vR b t.c l (P++ [i])).pu t.c ((vR b t.c l (P++ [i])).pu t.c++ [i]) t.c).map _);rw[cj,eZ,iH];exact hv4.ah qG Z
   .rw [aj e];show bS cS (100+r) aEZ v _ 1 _ (dE (vR b t.c l (P++ [i])).pu t.c ((vR b t.c l (P++ [i])).pu t.c++ [i]) r).length ((dE (vR b t.c l (P++ [i])).pu t.c ((vR b t.c l (P++ [i])).pu t.c++ [i]) r).map _);rw[dd Z];exact(a4l.sl r hr).ah q24 Z
  .rw [hG,aE nmM];trivial
 .rintro e f1 m1 ⟨l,ys,bX,a1,hlq,YF,H1,q1,xR,lm,am,e0,e2,e4⟩;have hX:=H1.aX.obj;simp only[go_sem,e0,e2,e4,hX,am, ↓ag 333];apply(QF H1.ue h hh hc t.n).bu;rintro u f2 C ⟨rfl,⟨la,hl2⟩,o,_⟩;have hTk:TkR t:=by rw[ht];exact H.bk.ok _ W
  have Up:jj.uj.e ((vR b t.c l ys).acc (hP h)) t.n=0:=ade (H.ue.s.ok _ hc.2.1) (by have:=hTk.2.2.1;omega) hr;rw[Up];have am2:=(o.ah m lm Z).trans am;have om2:bX m=0:=xR;have DM:=H1.aX.ah o I;have oX2:=DM.obj;have hQ2:=H1.qu.ah o I;simp only[go_sem,e0,e4,oX2,am2, ↓ag 216];apply(JZ hQ2 (j+1:Nat) hd).bu;rintro u f3 m3 ⟨⟨eq,rfl⟩,g9,⟨qa,Rv⟩,q3⟩;have nQ:¬PQ 9:=V0;have l2:m<C:=bW lm o.le;have am3:=(q3.ah m l2 (by rw[xR];unfold PQ;omega)).trans am2;have YP:=DM.ah q3 nQ;have oX3:=YP.obj;have UA:=(H1.bk.ah o I).ah q3 V0;simp only[go_sem,e0,e4,oX3,am3, ↓ag 334];apply(Sz UA j hj).bu;intro u g v hu;have hs':(vR b t.c l ys).ts[j].s=1:=by show b.ts[j].s=1;rw[←ht];exact hs
  rw[ao hs'] at hu;obtain⟨rfl,⟨ba,hB4⟩,q4⟩:=hu;have nB:¬PB 9:=O1;have om3:g9 m=0:=(q3.same m l2).trans xR;have am4:=(q4.ah m (bW l2 q3.le) (by rw[om3];unfold PB;omega)).trans am3;have YO:=YP.ah q4 nB;have oX4:=YO.obj;refine zS ?_;refine hk _ _ _ ⟨rfl,g9,l,ys,hlq,YF,⟨{a1 with la:=la,b:=ba,q:=qa},⟨YO,?_,((H1.re.ah o (λc h=>W3) I I).ah q3 (λc h=>U9) G V0).ah q4 (λc h=>Y1) G O1,?_,Rv.ah q4 O1,((H1.pu.ah o I Z).ah q3 V0 (λc _ _=>V0)).ah q4 O1 (λc _ _=>O1)⟩⟩,((q1.trans o (λ_ h=>h) (λc h=>by unfold VG;omega)).trans q3 (λ_ h=>h) (λc h=>by unfold PQ at h;unfold VG;omega)).trans q4 (λ_ h=>h) (λc h=>by unfold PB at h;unfold VG;omega)⟩
  .have:=(hl2.ah q3 V0).ah q4 O1;show fq _ _ _ _ _ _ _ _ (qi .uj b.acc t.c t.n) _ _;rw[hp];trivial
  .show ft _ _ _ _ (b.ts.set j ⟨t.i,t.c,t.n,2,t.p⟩) _;rw[ht];trivial
end
end
end Go.Ev.Sy
namespace Go.Ev.Sy
open Go Go.Ev Go.Proofs
noncomputable section
variable{c i:Nat}{os:aI}
def lU(aF1:Nat)(F:List Tk)(t:Tk):Prop:=∃j,∃h:j<F.length,t.i=j+1/\t.c=F[j].c/\t.n=F[j].n/\F[j].s=1/\F[j].p<=t.p/\t.p<=F[j].p+aF1
def lU.up{aF1 a:Nat}{F:List Tk}{t:Tk}(h:lU aF1 F t)(s:aF1<=a):lU a F t:=by obtain⟨j,z,A,N,M,u,r,b⟩:=h;exact⟨j,z,A,N,M,u,r,Z⟩
def lU.pass{aF1:Nat}{F:List Tk}{t:Tk}(h:lU aF1 F t):lU (aF1+1) F (jY t):=by
 obtain⟨j,z,A,N,M,u,r,a⟩:=h;unfold jY;split
 .exact ⟨j,z,A,N,M,u,by show _<=t.p+1;omega,by show t.p+1<=_;omega⟩
 .exact ⟨j,z,A,N,M,u,r,Z⟩
def lU.uj{aF1:Nat}{F:List Tk}{t:Tk}(h:lU aF1 F t):lU aF1 F (HI t):=h
def a7y(t:Tk):(jY t).i=t.i:=by unfold jY;grind
def SU{l:List Tk}(h:i<l.length):dG l i∈l:=by rw[qI h];grind
def a8d{l:List Tk}{t:Tk}(h:t∈Ue l i):∃u∈l,t=u\/t=jY u:=by unfold Ue at h;grind
def Rx(os)(r:Rs)(i:Nat)(F:i<r.lf.length):(((mP os r i).gr++(mP os r i).lf).map Tk.i).Perm ((r.gr++r.lf).map Tk.i):=by
 show((r.gr++ [HI (dG r.lf i)]++((r.lf.take i).map jY++r.lf.drop (i+1))).map Tk.i).Perm _;have e:r.lf=r.lf.take i++dG r.lf i::r.lf.drop (i+1):=by rw[qI F,AF,uC]
 have b:((r.lf.take i).map jY).map Tk.i=(r.lf.take i).map Tk.i:=by rw[lE];exact NS λt _=>a7y t
 conv=>rhs;rw[e]
 simp only[iH,jn,List.map_nil,b,pj];refine Oo _ ?_;show((dG r.lf i).i::((r.lf.take i).map Tk.i++(r.lf.drop (i+1)).map Tk.i)).Perm ((r.lf.take i).map Tk.i++(dG r.lf i).i::(r.lf.drop (i+1)).map Tk.i);grind
def zW(os)(e:Int)(F:List Tk):∀(k:Nat) (r:Rs) (aF1:Nat),(∀t∈r.gr++r.lf,lU aF1 F t)->((r.gr++r.lf).map Tk.i).Nodup->(∀t∈(iT os e k r).gr++(iT os e k r).lf,lU (aF1+k) F t)/\(((iT os e k r).gr++(iT os e k r).lf).map Tk.i).Nodup
 |0,r,aF1,A,N=>G
 |k+1,r,aF1,A,N=>by
  unfold iT;rcases uU r.acc os r.lf r.fr e with g|⟨i,a,g,p⟩
  .rw [ao Z];exact⟨λt o=>(A t o).up Z,N⟩
  .rw [aj Z,g,iI];have:=zW os e F k (mP os r i) (aF1+1) (λt o=>?_) ((Rx os r i a).nodup_iff.2 N)
   .grind
   .rcases fJ.1 o with o|o
    .rcases fJ.1 G with o|o
     .exact (A t W).up Z
     .rw [rY.1 o];exact((A _ (fJ.2 (.inr (SU a)))).uj).up Z
    .obtain ⟨u,L,rfl|rfl⟩:=a8d G
     .exact (A _ W).up Z
     .exact (A _ W).pass
def a0v(os:aI):(Nat->Acc)->Int->List Tk->Prop
 |_,_,[]=>True
 |a,f,t::l=>t.c∈os/\jj.uj.e (a t.c) t.n=0/\(t.n:Int)<=f/\a0v os (qi .uj a t.c t.n) (f-t.n) l
def aeh:(Nat->Acc)->List Tk->Nat->Acc
 |a,[]=>a
 |a,t::l=>aeh (qi .uj a t.c t.n) l
def VZ:List Tk->Nat
 |[]=>0
 |t::l=>t.n+VZ l
def a3u(h:kz os c=(i:Int)):i<os.length/\os.getD i 0=c:=by
 unfold kz at h;rcases iZ (λj=>decide ((os.getD j 0:Nat)=c)) 0 os.length with⟨A,_⟩|⟨j,A,N,M,u,_⟩
 .omega
 grind
def Gs(os)(e:Int):∀(k:Nat) (r:Rs),∃l,(iT os e k r).gr=r.gr++l/\a0v os r.acc r.fr l/\(iT os e k r).acc=aeh r.acc l/\(iT os e k r).fr=r.fr-VZ l
 |0,r=>⟨[],by simp[iT],trivial,rfl,by simp[iT,VZ]⟩
 |k+1,r=>by
  unfold iT;rcases uU r.acc os r.lf r.fr e with g|⟨i,F,g,p⟩
  .rw [ao Z];exact⟨[],J1,trivial,rfl,by simp[VZ]⟩
  .rw [aj Z,g,iI];obtain⟨l,A,N,M,u⟩:=Gs os e k (mP os r i);obtain⟨a,v,h,d⟩:=Ct p;obtain⟨b,o⟩:∃j:Nat,kz os (dG r.lf i).c=j:=⟨_,(uJ a).symm⟩;obtain⟨f,m⟩:=a3u o;rw[o] at d;have q:=(pn d).2.2;rw[iI] at q;have s:ed r.acc os b=r.acc (dG r.lf i).c:=by unfold ed;rw[m]
   rw[s] at q;have t:(mP os r i).acc=qi .uj r.acc (dG r.lf i).c (dG r.lf i).n:=by show xe r.acc os (kz os (dG r.lf i).c).toNat (dG r.lf i).n=_;unfold xe qi;rw[o,iI,m,s,ao q]
   refine⟨HI (dG r.lf i)::l,?_,⟨?_,q,h,?_⟩,?_,?_⟩
   .rw [A];show r.gr++ [HI (dG r.lf i)]++l=_;grind
   .show (dG r.lf i).c∈os;grind
   .rw [t] at N;trivial
   .rw [M,t];rfl
   .rw [u];show r.fr-((dG r.lf i).n:Nat)-(VZ l:Nat)=r.fr-(((dG r.lf i).n+VZ l:Nat):Int);omega
variable{p:Nat}{gen:aG}
def a5d(n:Nat)(k)(q:Nat):mQ n k q=(((List.range n).filter λi=>k i=q).length:Nat):=by
 induction n with
 |zero=>rfl
 |succ n H=>rw[List.range_succ,List.filter_append,eZ];unfold mQ;grind
def a5c{n:Nat}{k:aG}{q:Nat}{xs:aI}(hn:xs.Nodup)(h:∀i,i∈xs↔i<n/\k i=q):mQ n k q=(xs.length:Nat):=by rw[a5d];have:((List.range n).filter λi=>decide (k i=q)).Perm xs:=(List.perm_ext_iff_of_nodup (NP NR NK) hn).2 λa=>W;rw[this.length_eq]
def ajI{op:bs}(g:p<64)(a:gen p<=1048575)(L:op p=true):gU gen op (kN 1 p (gen p) 0:Nat)/\hP (kN 1 p (gen p) 0:Nat)=p/\((kN 1 p (gen p) 0:Nat):Int)<=9223372036854775807:=by
 have e:hP (kN 1 p (gen p) 0:Nat)=p:=by unfold hP kN;omega
 refine⟨⟨⟨⟨?_,?_,?_⟩,?_,?_⟩,?_,?_⟩,e,?_⟩
 .omega
 .unfold kN;omega
 .unfold kN;omega
 .unfold hK kN;omega
 .unfold hO kN;omega
 .grind
 .rw [e];unfold hG kN;omega
 .unfold kN;omega
def GL{F:List Tk}(hid:∀j (h:j<F.length),F[j].i=j+1):(∀t∈gJ F,lU 0 F t)/\((gJ F).map Tk.i).Nodup:=by
 constructor
 .intro t o;obtain⟨A,N⟩:=AE.1 o;obtain⟨j,z,rfl⟩:=jm A;exact⟨j,z,hid j z,rfl,rfl,pn N,bP _,bP _⟩
 .refine NP (NL _ NR) ?_;rw[pq,uA,Oh];grind
def Bx(F:List Tk)(t:Tk):List Tk:=F.set (t.i-1) ⟨t.i,t.c,t.n,1,t.p⟩
def Em:List Tk->List Tk->List Tk
 |F,[]=>F
 |F,t::l=>Em (Bx F t) l
def grT(F:List Tk)(t:Tk):List Tk:=F.set (t.i-1) ⟨t.i,t.c,t.n,2,t.p⟩
def grL:List Tk->List Tk->List Tk
 |F,[]=>F
 |F,t::l=>grL (grT F t) l
def Ty(F:List Tk)(t:Tk):(Bx F t).length=F.length:=uG ..
def UB(F:List Tk)(t:Tk):(grT F t).length=F.length:=uG ..
def lU.ps{aF1:Nat}{F:List Tk}{t u:Tk}(h:lU aF1 F t)(L:lU aF1 F u)(a:t.i≠u.i):lU aF1 (Bx F u) t:=by
 obtain⟨j,z,A,N⟩:=h;obtain⟨k,E,v,_⟩:=L;refine⟨j,G1,A,?_⟩;have e:(Bx F u)[j]' G1=F[j]:=by unfold Bx;rw[List.getElem_set_ne Z]
 grind
def Kl:∀(l F:List Tk) (t:Tk),Em F (l++ [t])=Bx (Em F l) t
 |[],_,_=>rfl
 |u::l,F,t=>Kl l (Bx F u) t
def Tz:∀(l F:List Tk),(Em F l).length=F.length
 |[],_=>rfl
 |u::l,F=>(Tz l (Bx F u)).trans (Ty F u)
def a2C{aF1:Nat}:∀(l rest F:List Tk),(∀t∈l++rest,lU aF1 F t)->((l++rest).map Tk.i).Nodup->∀t∈rest,lU aF1 (Em F l) t
 |[],rest,F,h,_,t,o=>h t o
 |u::l,rest,F,h,g,t,o=>by have a:(u.i::(l++rest).map Tk.i).Nodup:=g;rw[iK] at a;refine a2C l rest (Bx F u) (λx S=>(h x (ia _ S)).ps W λe=>W) W t o
def xf(F:List Tk)(t:Tk):Prop:=∃j,∃h:j<F.length,t.i=j+1/\F[j]=⟨t.i,t.c,t.n,1,t.p⟩
def xf.ps{aF1:Nat}{F:List Tk}{t u:Tk}(h:xf F t)(L:lU aF1 F u)(a:t.i≠u.i):xf (Bx F u) t:=by obtain⟨j,z,A,N⟩:=h;obtain⟨k,E,v,_⟩:=L;exact⟨j,G1,A,by unfold Bx;grind⟩
def lU.inn{aF1:Nat}{F:List Tk}{t:Tk}(h:lU aF1 F t):xf (Bx F t) t:=by obtain⟨j,z,A,_⟩:=h;refine⟨j,G1,A,?_⟩;have e:t.i-1=j:=Z;unfold Bx;grind
def OZ{aF1:Nat}:∀(l F:List Tk),(∀t∈l,lU aF1 F t)->(l.map Tk.i).Nodup->∀t,(t∈l\/xf F t/\t.i∉l.map Tk.i)->xf (Em F l) t
 |[],F,_,_,t,h=>h.elim (λh=>G) (λh=>h.1)
 |u::l,F,h,g,t,o=>by
  have a:(u.i::l.map Tk.i).Nodup:=g;rw[iK] at a;have L:=h u (ko ..);refine OZ l (Bx F u) (λx S=>(h x W).ps L λe=>W) W t ?_;rcases o with o|⟨A,N⟩
  .rcases fY.1 o with rfl|o
   .exact .inr ⟨L.inn,W⟩
   grind
  .rw [jn,fY] at N;exact .inr ⟨A.ps L Z,λh=>W⟩
@[grind →] theorem xf.gr{F:List Tk}{t u:Tk}(h:xf F t)(L:xf F u)(a:t.i≠u.i):xf (grT F u) t:=by obtain⟨j,z,A,N⟩:=h;obtain⟨k,E,v,_⟩:=L;exact⟨j,by rw[UB];trivial,A,by unfold grT;grind⟩
def GvR:Bs->List Tk->Bs->Prop
 |b,[],k=>k=b
 |b,t::y,k=>∃l R,l.length=t.n/\b.xs=R++l.reverse/\GvR (gvB b (t.i-1) t l R) y k
def GvR.snoc:∀{y:List Tk} {b a:Bs} {t:Tk} {l ys:aI},GvR b y a->l.length=t.n->a.xs=ys++l.reverse->GvR b (y++ [t]) (gvB a (t.i-1) t l ys)
 |[],b,a,t,l,ys,h,A,N=>⟨l,ys,A,by have e:a=b:=h;grind,by have e:a=b:=h;rw[e];rfl⟩
 |u::y,b,a,t,l,ys,h,A,N=>by obtain⟨g,c,M,d,r⟩:=h;exact⟨g,c,M,d,r.snoc A N⟩
def aiY{x:Acc}{n:Int}(h:jj.uj.e x n=0):n<=x.r:=by
 unfold jj.e at h;split at h
 .cases h
 .split at h
  .rename_i N;have:0<=x.r-n:=N.2.2.2.2.2.1;omega
  trivial
end
end Go.Ev.Sy
namespace Go.Ev.Sy
open Go Go.Ev Go.Proofs
open Tryz
noncomputable section
variable{m te:Nat}{own:aG}{f y:av}
def Lo(own:aG)(f:av)(m te z:Nat)(v:V)(n:Nat)(cs:ay):Prop:=i7 f m te z v n cs/\∀b o F S,v= .sl b o F S->own b=0
def Lo.ah{t:aG}{L z:Nat}{v:V}{n:Nat}{cs:ay}{P:dF}(h:Lo own f m te z v n cs)(q:Fr P own f m t y L)(h0:¬P 0):Lo t y L te z v n cs:=by
 obtain⟨h,s⟩:=h;rcases h with h|⟨i,o,cp,a,d,w,j,g,A,N,M,u⟩
 .exact ⟨.inl h,W⟩
 .have c:=s _ _ _ _ A;refine⟨.inr ⟨i,o,cp,a,d,w,j,g,A,bW N q.le,Vj,u⟩,λb k F E e=>?_⟩;rw[A] at e;cases e;exact(q.same i N).trans c
def Fs.lo0{q z:Nat}{v:V}{n:Nat}{cs:ay}(h:Fs f q m te z v n cs)(C:∀x,q<=x->own x=0):Lo own f m te z v n cs:=by
 obtain⟨u,M⟩:=h.sl;refine⟨M.uf,λb o F S e=>?_⟩;rcases h with h|⟨i,c,l,a,w,P,g,A,N,_⟩
 .grind
 grind
def Fs.eq{L q z:Nat}{v:V}{n:Nat}{cs:ay}(h:Fs f q m te z v n cs)(R:m<=L)(b:∀x,q<=x->x<m->y x=f x):Fs y q L te z v n cs:=by
 rcases h with h|⟨i,o,cp,a,w,P,g,A,N,M,u,r⟩
 .exact .inl h
 .exact .inr ⟨i,o,cp,a,w,P,g,A,N,Z,W,r⟩
section
variable {own:aG} {f:av} {m X aEY N d:Nat} {b:Bs} {a:nC}
@[grind] def PTk(c:Nat):Prop:=VG c\/c=3\/c=4\/c=8
def sY(b:Bs):Bs:=let s:=(RS.mk b.ph b.ge b.xs b.ws).turns (min b.qt b.ws.length);{b with ph:=s.ph,ge:=s.ge,xs:=s.xs,ws:=s.ws,tk:=b.tk+1}
def a5u{R:Rt}(H:cY own f m X b aEY N d a)(hg:∀p,b.gen p<=1048575)(hl:∀p,(b.pu p).length<=64)(hK:aEY+1000<1048575)(hd:d+1000<=1048576)(QO:∀t∈b.ts,t.p<=1000000):
  Cl R.Y.Y.Y.Y.Y.Y.Y.Y.Y.Y.Y.Y.Y.Y.Y.Y.Y 153 [.ptr X 0] f m (λv y L=>∃(w:V) (k:Nat) (r:Rs) (os:aI) (bo:aG) (b':Bs) (a':nC) (K' d':Nat),v= .cI [w,Q k,Q 0]/\k=min b.qt b.ws.length/\ll y L w (r.gr.map λt=>(t.i:Int))/\os.Pairwise (· < ·)/\(∀x,x∈os↔b.op x=true)/\r=iT os (sY b).ws.length (gJ b.ts).length ⟨[],gJ b.ts,b.acc,(sY b).xs.length⟩/\oy r.acc os r.lf r.fr (sY b).ws.length= -1/\yA os (sY b).ws.length ⟨[],gJ b.ts,b.acc,(sY b).xs.length⟩/\GvR {sY b with ts:=Em b.ts (r.gr++r.lf)} r.gr b'/\cY bo y L X b' K' N d' a'/\K'<=aEY+400/\d'<=d+200/\Fr PTk own f m bo y L):=by
 intro k T hk;have F:=CR H;have hX:=H.aX.obj;refine cUx func153 ?_;simp only[go_sem,F,hX, ↓ag 241];apply(Sj H hl).bu;rintro v f1 m1 ⟨⟨is,hl1,hI1,Ur⟩,q1⟩;have A:=H.gr q1;have QZ:=A.aX.obj;have hlv:=λq=>bN hI1.bC q;have hws:b.ws.length<=64:=cL (dg H.re.ln.nd (λx hx=>((H.re.ws x).1 hx).1)) H.re.st.s.n1;simp only[go_sem,QZ,hlv, ↓ag 240];apply(a2o (s:=RS.mk b.ph b.ge b.xs b.ws) (by show aEY+2*b.ws.length<_;omega) A.z ⟨a.r,A.re⟩ hI1 hl1 (λx o n c e=>H.z x (Ur x o n c e))).bu;rintro v f2 C ⟨vs,M,rfl,hI2,⟨ra,hR2⟩,q2⟩;have n9:¬PD 9:=Y3;have eS:ra.S=a.r.S:=A.re.sEq hR2 (q2.ah _ A.re.aC.lt (by rw[A.re.aC.own];exact n9));have H2:cY M f2 C X (sY b) (aEY+2*min b.qt b.ws.length+1) N d {a with r:=ra}:=by have DM:=A.aX.ah q2 n9;rw[←eS] at DM;exact⟨DM,A.ue.ah q2 Y3,hR2,A.bk.ah q2 Y3,A.qu.ah q2 Y3,A.pu.ah q2 Y3 (λc _ _=>Y3)⟩
 have DM:=H2.aX.obj;have xj:=λq=>bN hI2.bC q;simp only[go_sem,DM,xj, ↓ag 44];apply(x8 H2.bk).bu;rintro vp f3 m3 ⟨q3,hIp,_⟩;obtain⟨b2,LO⟩:∃b2,b2=sY b:=⟨_,rfl⟩;have DI:b2.ts=b.ts:=Qb;rw[←LO] at H2;have H3:=H2.gr q3;generalize ({a with r:=ra}:nC)=a2 at H2 H3 DM;obtain⟨t1,t2,t3,t4⟩:=bV hIp;have YP:=H3.aX.obj;have nX3:X≠m3:=by have:=H3.aX.lt;omega
 simp only[go_sem,YP,nX3,t1, ↓ag 243];refine aP ?_;intro F4 P;have oS:B f3 m3 F4 (pl m3 1):=by rw[P];exact(B.w (m2:=m3) Qe E1)
 have a8:F4 m3=(.row 437 4 0 true [.au,.au,.au,.num 0] (.cf (zf [.au,.au,.au,.num 0]))):=by rw[P];exact aK ..
 apply(Tg (H3.gr oS).re.st).bu;rintro u f4 m4 ⟨rfl,q4'⟩;have q4:=oS.trans q4';have lm3:m3<pl m3 1:=O6;have lm4:m3<m4:=bW lm3 q4'.le;have a84:=(q4'.ah m3 lm3).trans a8;have H4:=H3.gr q4;have YO:=H4.aX.obj;simp only[go_sem,YO, ↓ag 42];apply(yK H4.re).bu;rintro vw f5 m5 ⟨q5,hIw,_⟩;have H5:=H4.gr q5;have hX5:=H5.aX.obj;have ayx:b2.ws.length<=64:=cL (dg H5.re.ln.nd (λx hx=>((H5.re.ws x).1 hx).1)) H5.re.st.s.n1;have hlw:=λq=>hIw.jD Y6 q;rw[dT] at hlw;have hvw:=λq=>bN hIw.bC q;simp only[go_sem,hX5,hlw, ↓ag 43];apply(nq H5.ue).bu;rintro vm f6 m6 ⟨q6,os,hpw,Dm,Dn,hIm,_⟩;have H6:=H5.gr q6;have hX6:=H6.aX.obj;obtain⟨v1,v2,v3,v4⟩:=bV hIm;have q36:=(q4.trans q5).trans q6;have aiR:=hIp.gr q36;simp only[go_sem,t1,v1, ↓ag 242];rw[show (sY b).ts=b2.ts by rw[LO]] at aiR;have hxl:mQ b2.n b2.ph 0=(b2.xs.length:Nat):=a5c H6.re.st.nd H6.re.st.mem;have aoT:b2.xs.length<=64:=cL (dg H6.re.st.nd (λi F=>((H6.re.st.mem i).1 F).1)) H6.re.st.s.n1;rw[hxl];have hos:os.Nodup:=by rw[pq];exact hpw.imp (λh=>NW h)
 have Hx:=H6.bk.ln;have EW:(gJ b2.ts).length<=200:=cL (a1b ..) Hx;have hRI:yA os b2.ws.length ⟨[],gJ b2.ts,b2.acc,b2.xs.length⟩:=by
  refine⟨λi F=>?_,λi F=>?_,⟨by show(0:Int)<=(b2.xs.length:Nat);omega,Z,by show((b2.xs.length:Nat):Int)+_<=_;omega⟩⟩
  .show qk (ed b2.acc os i);unfold ed;rw[xx,bT F];exact H6.ue.s.ok _ ((Dm _).1 (eL F))
  .show 1<=(dG (gJ b2.ts) i).n;exact(H6.bk.ok _ (AE.1 (SU F)).1).2.2.1
 apply(adf aiR hIm Z Dn hos hRI).bu;rintro u f7 m7 ⟨⟨vg,vl,vm',r,hr,rfl,hFg,hFl,aAa,hnx,hgl⟩,q7⟩;have H7:=H6.gr q7;have hX7:=H7.aX.obj;have q47:B f4 m4 f7 m7:=(q5.trans q6).trans q7;have a87:=(q47.ah m3 lm4).trans a84;have lm7:m3<m7:=bW lm4 q47.le;have hLg:Lo M f7 m7 49 5 vg r.gr.length (gz r.gr):=hFg.lo0 (λx hx=>H6.z x hx);have hLl:Lo M f7 m7 49 5 vl r.lf.length (gz r.lf):=hFl.lo0 (λx hx=>H6.z x hx);obtain⟨g1,g2,g3,g4⟩:=bV hLg.1;obtain⟨l1,l2,l3,l4⟩:=bV hLl.1;simp only[go_sem,a87,g2,g3,l2,l3, ↓ag 244];refine aP ?_;intro F8 hF8;have z2:=H6.z;have om3:M m3=0:=H3.z m3 (bP _);have lm6:m3<m6:=by have:=q5.le;have:=q6.le;omega
 have q8:Fr (· =0) M f7 m7 M F8 (pl m7 1):=by rw[hF8];exact((Fr.refl _ M f7 m7).bw (λ_=>om3)).new
 have e8:∀x,x≠m3->x<m7->F8 x=f7 x:=λx h1 h2=>by rw[hF8,aE Z,aE h1]
 have H8:=H7.ah q8 (λc h=>Xk);have aqz:Fs F8 m6 (pl m7 1) 49 5 vg r.gr.length (gz r.gr):=hFg.eq O6 (λx h1 h2=>e8 x Z h2);have aqy:Fs F8 m6 (pl m7 1) 49 5 vl r.lf.length (gz r.lf):=hFl.eq O6 (λx h1 h2=>e8 x Z h2);have aiP:Lo M F8 (pl m7 1) 49 5 vg r.gr.length (gz r.gr):=aqz.lo0 z2;have aqs:Lo M F8 (pl m7 1) 49 5 vl r.lf.length (gz r.lf):=aqy.lo0 z2;have a88:F8 m3=(.row 437 4 0 true [.au,.au,.au,.num 0] (.cf (laid 0 [vg,vl,vm',Q r.fr] (zf [.au,.au,.au,.num 0])))):=by rw[hF8,aE Z];exact aK ..
 have hf8:F8 m7=(.row 34 2 0 true [.au] (.cf (bI [vg,vl]))):=by rw[hF8];exact aK ..
 apply(DR aiP.1 aqs.1 Z Z O6 hf8).bu;rintro vc f9 m9 ⟨hFc,q9⟩;have lm8:m3<pl m7 1:=O6;have H9:=H8.gr q9;have q39:B f3 m3 f9 m9:=by have hA:=(q36.trans q7);refine⟨by have:=hA.le;have:=q9.le;unfold pl at *;omega,λx hx=>?_⟩;have l7:=hA.le;rw[q9.ah x O6,e8 x Z Z];exact hA.ah x hx
 have q9f:=q9.fr M (λ_=>False);have aqt:=aiP.ah q9f id;have a4n:Lo M f9 m9 49 5 vc (r.gr.length+r.lf.length) (gz r.gr++gz r.lf):=hFc.lo0 (λx hx=>z2 x (by have:=q7.le;unfold pl at hx;omega));have a89:=(q9.ah m3 lm8).trans a88;have lm9:m3<m9:=bW lm8 q9.le;rw[←eZ,show gz r.gr++gz r.lf=gz (r.gr++r.lf) by unfold gz;rw[mK]] at a4n;obtain⟨cl,zy⟩:∃cl,cl=r.gr++r.lf:=⟨_,rfl⟩;rw[←zy] at a4n;have azM:cl.length=(gJ b2.ts).length:=by rw[zy,eZ];exact hgl
 obtain⟨c1,c2,c3,c4⟩:=bV a4n.1;have hlc:=λq=>a4n.1.jD Z q;simp only[go_sem,hlc];have hid:=H9.bk.id;obtain⟨apB,apq⟩:=GL hid;obtain⟨acV,a49⟩:=zW os b2.ws.length b2.ts (gJ b2.ts).length ⟨[],gJ b2.ts,b2.acc,b2.xs.length⟩ 0 (by simpa using apB) (by simpa using apq);rw[←hr,←zy] at acV a49;rw[dz] at acV;have acU:∀t∈cl,lU 200 b2.ts t:=λt ht=>(acV t ht).up EW;have apc:∀j (h:j<b2.ts.length),b2.ts[j].p<=1000000:=λj h=>by
  have:b2.ts[j]∈b.ts:=by rw[←DI];exact eL h
  exact QO _ this
 obtain⟨K2,hK2⟩:∃K2,K2=aEY+2*min b.qt b.ws.length+1:=⟨_,rfl⟩;rw[←hK2] at H9;refine cU (x:=.exit 0) (n:=cl.length+1) (aF0:=λrem e y L=>∃(q:Nat) (ba:uv),q+rem=cl.length+1/\1<=rem/\cY M y L X {b2 with ts:=Em b2.ts (cl.take q)} K2 N d {a2 with b:=ba}/\Fr PB M f9 m9 M y L/\(eg 0).get e= .ptr X 0/\(eg 5).get e=vs/\(eg 8).get e= .ptr m3 0/\(eg 9).get e= .au/\(eg 62).get e=vc/\(eg 63).get e=Q cl.length/\(eg 64).get e=Q q)
  (E:=λe y L=>∃ba:uv,cY M y L X {b2 with ts:=Em b2.ts cl} K2 N d {a2 with b:=ba}/\Fr PB M f9 m9 M y L/\(eg 0).get e= .ptr X 0/\(eg 5).get e=vs/\(eg 8).get e= .ptr m3 0/\(eg 9).get e= .au) ?_ J2 ?_ ?_
 .exact ⟨0,a2.b,Z,Z,H9,Fr.refl ..,E6,E6,E6,E6,E6,E6,E6⟩
 .rintro rem e fa ma ⟨q,ba,hqr,Hy,Ha,qa,e0,e5,e8,e9,e62,e63,e64⟩ rr kx lR hE;unfold iB;by_cases hq:q<cl.length
  case neg=>have hq':¬((q:Int)<(cl.length:Nat)):=Z;obtain rfl:q=cl.length:=Z;refine zS ?_;rw[mJ] at Ha;exact hE _ _ _ ⟨ba,Ha,qa,e0,e5,e8,e9⟩
  have hq':((q:Int)<(cl.length:Nat)):=Z;have n0B:¬PB 0:=O1;obtain⟨x,o,cp,mm,fz,w,zs,g,rfl,hx,hf,nz,k0,k1,k2,k3,k4⟩:=AO ((a4n.ah qa n0B).1) hq;obtain⟨t,ht⟩:∃t,t=dG cl q:=⟨_,rfl⟩;rw[←ht] at k0 k1 k2 k3 k4;have htk:t=cl[q]:=by rw[ht,qI hq]
  have hT:lU 200 (Em b2.ts (cl.take q)) t:=a2C (cl.take q) (cl.drop q) b2.ts (by rw[uC];exact acU) (by rw[uC];exact a49) t (by rw[htk,←AF hq];exact ko ..);have htp:t.p<=1000200:=by obtain⟨j,hj,_,_,_,_,_,h⟩:=acU t (by rw[htk];exact eL hq);have:=apc j hj;omega
  obtain⟨xC,ahO⟩:∃xC,xC=Em b2.ts (cl.take q):=⟨_,rfl⟩;rw[←ahO] at hT Ha;obtain⟨j,hj,j1,j2,j3,j4,j5,j6⟩:=hT;have hXa:=Ha.aX.obj;have c5:o+q*5+5<=mm:=Z;have nXa:X≠ma:=by have:=Ha.aX.lt;omega
  have aoh:X≠pl ma 1:=by have:=Ha.aX.lt;unfold pl;omega
  have nma:ma≠pl ma 1:=O6;simp only[go_sem,e0,e62,e63,e64,hq',hq,hf,k0,k1,k2,k3,k4,c5,hXa,nXa,aoh,nma, ↓ag 214];refine aP ?_;intro Fb hFb;have qb:B fa ma Fb (pl ma 2):=by rw[hFb];exact(B.w (m2:=ma) Qe E1)
  have ab:Fb ma=(.row 49 5 0 true [.num 0,.num 0,.num 0,.num 0,.num 0] (.cf (laid 0 [Q t.i,Q t.c,Q t.n,Q t.s,Q t.p] (zf [.num 0,.num 0,.num 0,.num 0,.num 0])))):=by rw[hFb,aE nma];exact aK ..
  have ab2:Fb (pl ma 1)=(.row 49 5 0 true [.num 0,.num 0,.num 0,.num 0,.num 0] (.cf (zf [.num 0,.num 0,.num 0,.num 0,.num 0]))):=by rw[hFb];exact aK ..
  have Hb:=Ha.gr qb;apply(x9 Hb.bk t.i).bu;rintro u fc mc ⟨hu,qc⟩;have Hc:=Hb.gr qc;obtain rfl:u= .cI [.agg [Q xC[j].i,Q xC[j].c,Q xC[j].n,Q xC[j].s,Q xC[j].p],Q 0]:=by rw[hu,j1,ao Z,show((j+1:Nat):Int).toNat-1=j by omega,bT hj]
  have hXc:=Hc.aX.obj;have lma:ma<pl ma 2:=O6;have ac:=(qc.ah ma lma).trans ab;have ac2:=(qc.ah (pl ma 1) O6).trans ab2;have lmc:pl ma 1<mc:=bW (show pl ma 1<pl ma 2 by unfold pl;omega) qc.le;have ewd:IntKind.i64.wrap ((t.p:Int)-(xC[j].p:Nat))=((t.p-xC[j].p:Nat):Int):=Ql;simp only[go_sem,ac,ac2,nma,ewd];refine uV ?_;intro Fd hFd;have qad:B fa ma Fd mc:=by rw[hFd];exact(qb.trans qc).bw O6
  have Hd:=Ha.gr qad;have ad:Fd ma=(.row 49 5 0 true [.num 0,.num 0,.num 0,.num 0,.num 0] (.cf (laid 0 [Q t.i,Q t.c,Q t.n,Q t.s,Q t.p] (zf [.num 0,.num 0,.num 0,.num 0,.num 0])))):=by rw[hFd,aE nma];exact ac
  have oma:M ma=0:=Ha.z ma (bP _);have aht:ma<mc:=by unfold pl at lmc;omega
  obtain⟨D,hD⟩:∃D,D=t.p-xC[j].p:=⟨_,rfl⟩;have rS:xC[j].i=j+1:=Hd.bk.id j hj;have ahS:xC.set j ⟨t.i,t.c,t.n,1,xC[j].p+0⟩=xC:=by
   have e:(⟨t.i,t.c,t.n,1,xC[j].p+0⟩:Tk)=xC[j]:=by rw[j1,j2,j3,←rS,←j4,j8]
   rw[e,List.set_getElem_self]
  rw[←hD];refine cU (x:=.exit 2) (n:=D+1) (aF0:=λa7k e y L=>∃(i2:Nat) (bb:uv),i2+a7k=D+1/\1<=a7k/\ft M y L a2.aF1 (xC.set j ⟨t.i,t.c,t.n,1,xC[j].p+i2⟩) bb/\Fr PB M Fd mc M y L/\(eg 0).get e= .ptr X 0/\(eg 5).get e=vs/\(eg 8).get e= .ptr m3 0/\(eg 9).get e= .au/\(eg 11).get e= .ptr ma 0/\(eg 62).get e= .sl x o cl.length cp/\(eg 63).get e=Q cl.length/\(eg 64).get e=Q q/\(eg 82).get e=Q D/\(eg 83).get e=Q i2)
   (E:=λe y L=>∃bb:uv,ft M y L a2.aF1 (xC.set j ⟨t.i,t.c,t.n,1,t.p⟩) bb/\Fr PB M Fd mc M y L/\(eg 0).get e= .ptr X 0/\(eg 5).get e=vs/\(eg 8).get e= .ptr m3 0/\(eg 9).get e= .au/\(eg 62).get e= .sl x o cl.length cp/\(eg 63).get e=Q cl.length/\(eg 64).get e=Q q) ?_ J2 ?_ ?_
  .exact ⟨0,ba,Z,Z,by rw[ahS];exact Hd.bk,Fr.refl ..,E6,E6,E6,E6,E6,E6,E6,E6,E6,E6⟩
  .rintro a7k e' fe me ⟨i2,bb,Uu,hr2,hBe,qe,u0,u5,u8,u9,u11,u62,u63,u64,u82,u83⟩ rr2 kx2 ap6 hE2;unfold iB;by_cases hi2:i2<D
   case neg=>have acX:¬((i2:Int)<(D:Nat)):=Z;simp only[go_sem,u82,u83,acX];refine hE2 _ _ _ ⟨bb,?_,qe,u0,u5,u8,u9,u62,u63,u64⟩;have e:xC[j].p+i2=t.p:=Z;rw[e] at hBe;exact hBe
   have acX:((i2:Int)<(D:Nat)):=Z;have hXe:=(Hd.aX.ah qe O1).obj;have ae:=(qe.ah ma aht (by rw[oma];exact n0B)).trans ad;have QS:j<(xC.set j ⟨t.i,t.c,t.n,1,xC[j].p+i2⟩).length:=by rw[uG];exact hj
   have hgt:(xC.set j ⟨t.i,t.c,t.n,1,xC[j].p+i2⟩)[j]=⟨t.i,t.c,t.n,1,xC[j].p+i2⟩:=a1a ..;simp only[go_sem,u0,u11,u82,u83,acX,hXe,ae, ↓ag 245];rw[j1];apply(a0i hBe j QS (by rw[hgt];show xC[j].p+i2<_;omega)).bu;intro Y ff mf huu;rw[hgt,ao rfl,List.set_set] at huu;obtain⟨rfl,⟨bc,hBf⟩,qf⟩:=huu;have hXf:=((Hd.aX.ah qe O1).ah qf O1).obj;have af:=(qf.ah ma (bW aht qe.le) (by rw[oma];exact n0B)).trans ae;have ewi:IntKind.i64.wrap ((i2:Int)+1)=((i2+1:Nat):Int):=Qf;refine zS ?_;exact ap6 (a7k-1) _ _ _ Z ⟨i2+1,bc,Z,Z,hBf,qe.trans qf (λ_ h=>h) (λ_ h=>h),E6,E6,E6,E6,E6,E6,E6,E6,E6,E6⟩
  .rintro e' fe me ⟨bb,hBe,qe,u0,u5,u8,u9,u62,u63,u64⟩;have ewq:IntKind.i64.wrap ((q:Int)+1)=((q+1:Nat):Int):=Qf;refine zS ?_;have hsn:Em b2.ts (cl.take (q+1))=xC.set j ⟨t.i,t.c,t.n,1,t.p⟩:=by
    rw[jr hq,←htk,Kl,←ahO];unfold Bx;rw[show t.i-1=j by omega]
   refine lR (rem-1) _ _ _ Z ⟨q+1,bb,Z,Z,?_,(qa.trans (qad.fr M PB) (λ_ h=>h) (λ_ h=>h)).trans qe (λ_ h=>h) (λ_ h=>h),E6,E6,E6,E6,E6,E6,E6⟩;rw[hsn];exact⟨Hd.aX.ah qe O1,Hd.ue.ah qe O1,Hd.re.ah qe (λc h=>Y1) O1 O1,hBe,Hd.qu.ah qe O1,Hd.pu.ah qe O1 (λc _ _=>O1)⟩
 .rintro e fa ma ⟨ba,Ha,qa,e0,e5,e8,e9⟩;have n0B:¬PB 0:=O1;have aa:=(qa.ah m3 lm9 (by rw[om3];exact n0B)).trans a89;have aiO:=aqt.ah qa n0B;have hlg:=λq=>aiO.1.jD Z q;have hXa:=Ha.aX.obj;have QT:∀t∈cl,xf (Em b2.ts cl) t:=λt ht=>OZ cl b2.ts acU a49 t (.inl ht);obtain⟨gl0,ve,xm,hg3,hg4⟩:=Gs os b2.ws.length (gJ b2.ts).length ⟨[],gJ b2.ts,b2.acc,b2.xs.length⟩;rw[←hr,mG] at ve;rw[←ve] at xm;have hgn:(r.gr.map Tk.i).Nodup:=by
   rw[zy,iH] at a49;exact(jS.1 a49).1
  have azw:r.gr.length<=200:=Z;simp only[go_sem,e8,aa,g2,hlg];refine cU (x:=.exit 4) (n:=r.gr.length+1) (aF0:=λrem e y L=>∃(q:Nat) (bo:aG) (bq:Bs) (a':nC) (K':Nat) (vo:V),q+rem=r.gr.length+1/\1<=rem/\GvR {b2 with ts:=Em b2.ts cl} (r.gr.take q) bq/\cY bo y L X bq K' N (d+q) a'/\K'+bq.xs.length=K2+b2.xs.length/\Fr PTk M fa ma bo y L/\bS bo 8 y L 3 1 vo q ((r.gr.take q).map λt=>Q t.i)/\
    a0v os bq.acc bq.xs.length (r.gr.drop q)/\(∀t∈r.gr.drop q,xf bq.ts t)/\bq.gen=b2.gen/\bq.op=b2.op/\(∀p,(bq.pu p).length+bq.xs.length<=128)/\
    (eg 0).get e= .ptr X 0/\(eg 5).get e=vs/\(eg 9).get e=vo/\(eg 95).get e=vg/\(eg 96).get e=Q r.gr.length/\(eg 97).get e=Q q)
   (E:=λe y L=>∃(bo:aG) (bq:Bs) (a':nC) (K':Nat) (vo:V),GvR {b2 with ts:=Em b2.ts cl} r.gr bq/\cY bo y L X bq K' N (d+r.gr.length) a'/\K'+bq.xs.length=K2+b2.xs.length/\Fr PTk M fa ma bo y L/\bS bo 8 y L 3 1 vo r.gr.length (r.gr.map λt=>Q t.i)/\(eg 0).get e= .ptr X 0/\(eg 5).get e=vs/\(eg 9).get e=vo) ?_ J2 ?_ ?_
  .exact ⟨0,M,_,_,K2,.au,Z,Z,rfl,Ha,rfl,Fr.refl ..,bS.nil,xm,λt ht=>QT t (by rw[zy];exact fJ.2 (.inl ht)),rfl,rfl,λp=>by have:=hl p;show(b2.pu p).length+b2.xs.length<=128;rw[show b2.pu p=b.pu p by rw[LO];rfl];omega,E6,E6,E6,E6,E6,E6⟩
  .rintro rem e' fb mb ⟨q,Pn,bq,ab,Kb,vo,hqr,Hy,hGv,Hb,hKb,qb,hso,hgo,rS,hge,ai2,hpb,u0,u5,u9,u95,u96,u97⟩ rr kx lR hE;unfold iB;by_cases hq:q<r.gr.length
   case neg=>have hq':¬((q:Int)<(r.gr.length:Nat)):=Z;obtain rfl:q=r.gr.length:=Z;refine zS ?_;rw[mJ] at hGv hso;exact hE _ _ _ ⟨Pn,bq,ab,Kb,vo,hGv,Hb,hKb,qb,hso,u0,u5,u9⟩
   have hq':((q:Int)<(r.gr.length:Nat)):=Z;have n0T:¬PTk 0:=by unfold PTk VG PR PS;omega
   obtain⟨x,o,cp,mm,fz,w,zs,g,rfl,hx,hf,nz,k0,k1,k2,k3,k4⟩:=AO ((aiO.ah qb n0T).1) hq;obtain⟨t,ht⟩:∃t,t=dG r.gr q:=⟨_,rfl⟩;rw[←ht] at k0 k1 k2 k3 k4;have htk:t=r.gr[q]:=by rw[ht,qI hq]
   have hdr:r.gr.drop q=t::r.gr.drop (q+1):=by rw[htk,AF]
   rw[hdr] at hgo rS;obtain⟨y1,y2,y3,y4⟩:=hgo;obtain⟨j,hj,j1,j2⟩:=rS t (ko ..);have acQ:bq.op t.c=true:=by rw[ai2];exact(Dm _).1 y1
   have hXb:=Hb.aX.obj;have nXb:X≠mb:=by have:=Hb.aX.lt;omega
   have c5:o+q*5+5<=mm:=Z;have M0:∀a b c d e z,laid 0 [a,b,c,d,e] z 0=a:=λ_ _ _ _ _ _=>rfl;have M1:∀a b c d e z,laid 0 [a,b,c,d,e] z 1=b:=λ_ _ _ _ _ _=>rfl;have M2:∀a b c d e z,laid 0 [a,b,c,d,e] z 2=c:=λ_ _ _ _ _ _=>rfl;have M3:∀a b c d e z,laid 0 [a,b,c,d,e] z 3=d:=λ_ _ _ _ _ _=>rfl;have M4:∀a b c d e z,laid 0 [a,b,c,d,e] z 4=e:=λ_ _ _ _ _ _=>rfl;simp only[go_sem,u0,u95,u96,u97,hq',hq,hf,k0,k1,k2,k3,k4,c5,hXb,nXb, ↓ag 220];refine aP ?_;intro Fc hFc;have qc:B fb mb Fc (pl mb 1):=by rw[hFc];exact(B.w (m2:=mb) Qe E1)
   have ac:Fc mb=(.row 49 5 0 true [.num 0,.num 0,.num 0,.num 0,.num 0] (.cf (laid 0 [Q t.i,Q t.c,Q t.n,Q t.s,Q t.p] (zf [.num 0,.num 0,.num 0,.num 0,.num 0])))):=by rw[hFc];exact aK ..
   have lmb:mb<pl mb 1:=O6;have Hc:=Hb.gr qc;have QV:∀p,bq.gen p<=1048575:=by rw[hge,show b2.gen=b.gen by rw[LO];rfl];exact hg
   apply(yV Hc.ue t.c QV).bu;rintro u fd md ⟨rfl,qd⟩;rw[ao acQ];have Hd:=Hc.gr qd;obtain⟨z1,z2',z3⟩:=ajI (gen:=bq.gen) (op:=bq.op) (Hd.TM acQ) (QV _) acQ;have ad:=(qd.ah mb lmb).trans ac;have lmd:mb<md:=bW lmb qd.le;have hXd:=Hd.aX.obj;have n0k:¬VG 0:=B8;have omb:Pn mb=0:=Hb.z mb (bP _);simp only[go_sem,ad, ↓ag 246];have hbc:bq.ts[j].c=hP (kN 1 t.c (bq.gen t.c) 0:Nat):=by rw[j2,z2']
   have hgv:=a5s (R:=R.Y.Y.Y.Y.Y.Y.Y) Hd (kN 1 t.c (bq.gen t.c) 0:Nat) z3 z1 hj hbc (by rw[j2]) Z Z (by rw[j2];show t.n<=bq.xs.length;omega) (by rw[j2,z2'];exact aiY y2) (λp=>by have:=hpb p;omega) t.s t.p;rw[j2,←j1] at hgv;refine hgv.bu ?_;rintro u fe me ⟨rfl,abL,l,ys,hll,YF,⟨ae,He⟩,qe⟩;have he0:=(qe.ah mb lmd (by rw[omb];exact n0k)).trans ad;have n9k:¬VG 9:=B8;have hXe:=(Hd.aX.ah qe n9k).obj;have lme:mb<me:=bW lmd qe.le;have n8k:¬VG 8:=B8;have qbd:=(qc.trans qd).fr Pn (λ_=>False);have hse:=(hso.ah qbd id).ah qe n8k;have nme:mb≠me:=Z;simp only[go_sem,u9,u97,he0,hse.live];refine gE ?_;intro Ff hFf;have qf:B fe me Ff (pl me 1):=by rw[hFf];exact(B.w (m2:=me) Qe E1)
   refine dv (hse.ah (qf.fr abL (λ_=>False)) id) (n':=1) rfl (qS _) Z Z ?_;intro vo' anU fg mg hvo qg;have ome:abL mb=0:=(qe.same mb lmd).trans omb;have LN:=(qg.ah mb (bW lme O6) (by rw[ome];decide)).trans ((qf.ah mb lme).trans he0);have Hg:=(He.gr qf).ah qg (λc h=>Xk);have ewq:IntKind.i64.wrap ((q:Int)+1)=((q+1:Nat):Int):=Qf;simp only[go_sem,hvo.live,ewq];have ej:j=t.i-1:=Z;have az6:l.length=t.n:=hll;have egv:gvB bq j ⟨t.i,t.c,t.n,1,t.p⟩ l ys=gvB bq (t.i-1) t l ys:=by rw[ej];rfl
   rw[egv] at Hg;have hyl:ys.length+t.n=bq.xs.length:=by rw[YF,eZ,List.length_reverse,hll]
   refine lR (rem-1) _ _ _ Z ⟨q+1,anU,gvB bq (t.i-1) t l ys,ae,Kb+t.n,vo',Z,Z,?_,Hg,?_,?_,?_,?_,?_,hge,ai2,?_,E6,E6,E6,E6,E6,E6⟩
   .rw [jr hq,←htk];exact hGv.snoc hll YF
   .show Kb+t.n+ys.length=_;omega
   .exact (((qb.trans qbd (λ_ h=>h) (λ_ h=>h.elim)).trans qe (λ_ h=>h) (λ_ h=>.inl h)).trans (qf.fr abL (λ_=>False)) (λ_ h=>h) (λ_ h=>h.elim)).trans qg (λ_ h=>h) (λ_ h=>.inr (.inr (.inr h)))
   .rw [jr hq,←htk,iH];exact hvo
   .show a0v os (qi .uj bq.acc t.c t.n) (ys.length:Nat) _;rw[show ((ys.length:Nat):Int)=(bq.xs.length:Nat)-(t.n:Nat) by omega];exact y4
   .intro t' ht';refine(rS t' (ia _ ht')).gr ⟨j,hj,j1,j2⟩ λe=>?_;have ai8:((r.gr.drop q).map Tk.i).Nodup:=NP (NL _ (List.drop_sublist ..)) hgn;rw[hdr,jn,iK] at ai8;exact ai8.1 (e▸Ou ht')
   .intro p;show(dE bq.pu t.c (bq.pu t.c++l) p).length+ys.length<=128;by_cases e:p=t.c
    .subst e;rw[cj,eZ];have:=hpb t.c;omega
    .rw [dd e];have:=hpb p;omega
  .rintro e' fb mb ⟨Pn,bq,ab,Kb,vo,hGv,Hb,hKb,qb,hso,u0,u5,u9⟩;obtain⟨w1,w2,w3,w4⟩:=bV hso.uf;have az1:=λq=>hI2.jD Y6 q;refine zS ?_;rw[show (List.map (λ(x:Nat)=>(x:Int)) (List.take (min b.qt b.ws.length) b.ws)).length=min b.qt b.ws.length by simp];have anI:Fr PTk own f m Pn fb mb:=((((q1.fr own PTk).trans q2 (λ_ h=>h) (λc h=>h.elim (λh=>.inl (.inl h)) (λh=>h.elim (λh=>.inr (.inl h)) (λh=>.inr (.inr (.inl h)))))).trans ((q3.trans q39).fr M PTk) (λ_ h=>h) (λ_ h=>h)).trans qa (λ_ h=>h) (λc h=>by unfold PB at h;unfold PTk VG;omega)).trans qb (λ_ h=>h) (λ_ h=>h);have ews:b2.ws.length=(sY b).ws.length:=by rw[LO]
   have exs:b2.xs.length=(sY b).xs.length:=by rw[LO]
   have eac:b2.acc=b.acc:=Qb;have eop:b2.op=b.op:=Qb;rw[eop] at Dm;rw[ews,DI,eac,exs] at hr hRI;rw[ews] at hnx;rw[DI,LO,zy] at hGv;refine hk _ _ _ ⟨vo,_,r,os,Pn,bq,ab,Kb,d+r.gr.length,rfl,rfl,?_,hpw,Dm,hr,hnx,hRI,hGv,Hb,Z,Z,anI⟩;have ap1:bS Pn 8 fb mb 3 1 vo r.gr.length ((r.gr.map Tk.i).map λ(x:Nat)=>Q x):=by rw[lE];exact hso
   have hz:=ap1.toI;rw[lE] at hz;exact hz
end
variable{vm:V}{os:aI}
section
variable {own:aG} {f:av} {m X aEY N d:Nat} {b:Bs} {a:nC}
structure StS(own:aG)(f:av)(m:Nat)(b:Bs)(os:aI)(vc vw vm vp:V):Prop where
 fc:Lo own f m 151 3 vc b.n (Io b.n b.ph b.ow b.ge)
 fw:ll f m vw (b.ws.map λ(x:Nat)=>(x:Int))
 w0:∀x o n c,vw= .sl x o n c->own x=0
 o1:os.Pairwise (· < ·)
 o2:∀x,x∈os↔b.op x=true
 o3:os.length<=64
 fm:Lo own f m 149 4 vm os.length (fM b.acc os)
 fp:Lo own f m 49 5 vp (gJ b.ts).length (gz (gJ b.ts))
def StS.ah{t:aG}{L:Nat}{P:dF}{j k l:V}(h:StS own f m b os j k vm l)(q:Fr P own f m t y L)(h0:¬P 0):StS t y L b os j k vm l:=
 ⟨h.fc.ah q h0,h.fw.frv q (λx o n c e=>by rw[h.w0 x o n c e];trivial),λx o n c e=>by
  rcases h.fw with⟨u,_⟩|⟨i,r,c1,a,p,w,z,g,u,F,_⟩
  .grind
  .have d:=h.w0 x o n c e;rw[u] at e;cases e;exact(q.same _ F).trans d,h.o1,h.o2,h.o3,h.fm.ah q h0,h.fp.ah q h0⟩
def a0f{R:Rt}(H:cY own f m X b aEY N d a):
  Cl R.Y.Y.Y.Y.Y.Y.Y.Y 20 [.ptr X 0] f m (λv y L=>∃j vw vm vp os bo,v= .agg [Q b.tk,j,vw,vm,vp,.au]/\StS bo y L b os j vw vm vp/\cY bo y L X b aEY N d a/\Fr (· =31) own f m bo y L):=by
 intro k T E;refine cUx func20 ?_;refine zS ?_;refine ld ?_;intro F hF;have q0:B f m F (pl m 1):=Vw;have s:own m=0:=H.z m Z;have a0:F m=(.row 37 6 0 true [.num 0,.au,.au,.au,.au,.au] (.cf (zf [.num 0,.au,.au,.au,.au,.au]))):=O2;have S:=H.gr q0;have hi:=CR S;have hX0:=S.aX.obj;simp only[go_sem,hi,hX0, ↓ag 40];apply(WI S.re).bu;rintro v r m1 ⟨rfl,bX,hR1,P⟩;have A:cY bX r m1 X b aEY N d a:=⟨S.aX.ah P I,S.ue.ah P I,hR1,S.bk.ah P I,S.qu.ah P I,S.pu.ah P I Z⟩;have QZ:=A.aX.obj;have z1:=A.z;have a1:=(P.ah m W Z).trans a0;have l1:m<m1:=T4;simp only[go_sem,QZ, ↓ag 41];apply(a1R A.re.st).bu;rintro j f2 C ⟨q2,hc,nc⟩;have H2:=A.gr q2;have DM:=H2.aX.obj;simp only[go_sem,DM, ↓ag 42];apply(yK H2.re).bu;rintro vw f3 m3 ⟨q3,l,nw⟩;have H3:=H2.gr q3;have YP:=H3.aX.obj;simp only[go_sem,YP, ↓ag 43];apply(nq H3.ue).bu;rintro vm f4 m4 ⟨q4,os,o1,o2,o3,hm,nm⟩;have H4:=H3.gr q4;have YO:=H4.aX.obj;simp only[go_sem,YO, ↓ag 44];apply(x8 H4.bk).bu;rintro vp p u ⟨M,hp,np⟩;have H5:=H4.gr M;have hX5:=H5.aX.obj;obtain⟨c1,c2,c3,c4⟩:=bV hc;obtain⟨d1,d2,d3,d4⟩:=bV hm;obtain⟨e1,e2,e3,e4⟩:=bV hp;have w1:∀q,V.live vw q=q vw:=λq=>bN l.bC q;have w2:∀q d,V.bt vw q d=q vw:=λq d=>X5;have w3:∀q,V.one vw q=q vw:=λq=>X5;have w4:∀q,V.cells vw q=q [vw]:=λq=>X5;have q25:B r m1 p u:=((q2.trans q3).trans q4).trans M;have a5:=(q25.ah m l1).trans a1;refine zS ?_;refine fG ?_;intro aEZ hG;have z1':=A.z;have eG:∀x,x≠m->aEZ x=p x:=λx hx=>by rw[hG,aE hx]
 have qG:Fr (· =0) bX p u bX aEZ u:=by rw[hG];exact(Fr.refl _ bX p u).bw (λ_=>(P.same m W).trans s)
 have l5:=q25.le;have nwl:∀{te z n:Nat} {v:V} {cs:ay},i7 p u te z v n cs->Nw m1 v->Lo bX aEZ u te z v n cs:=λ{te z n v cs} h l=>by
  refine⟨?_,λb o n' cp e=>z1' _ (l _ _ _ _ e)⟩;rcases h with h|⟨i,o,cp,mm,t,w,zs,g,h1,h2,h3,h4⟩
  .exact .inl h
  .exact .inr ⟨i,o,cp,mm,t,w,zs,g,h1,h2,by rw[eG i (by have:=l _ _ _ _ h1;omega)];trivial,h4⟩
 have up:∀{v:V} {L:Nat},m1<=L->Nw L v->Nw m1 v:=λh l x o n c e=>cL h (l x o n c e);refine E _ _ _ ⟨j,vw,vm,vp,os,bX,rfl,⟨nwl (hc.gr ((q3.trans q4).trans M)) nc,?_,λx o n c e=>z1' _ (up q2.le nw x o n c e),o1,o2,o3,nwl (hm.gr M) (up (by have:=q2.le;have:=q3.le;omega) nm),nwl hp (up (by have:=q2.le;have:=q3.le;have:=q4.le;omega) np)⟩,H5.ah qG W,?_⟩
 .have hw5:=l.gr (q4.trans M);rcases hw5 with h|⟨i,o,cp,mm,t,w,zs,g,h1,h2,h3,h4⟩
  .exact .inl h
  .exact .inr ⟨i,o,cp,mm,t,w,zs,g,h1,h2,W,h4⟩
 .have:=((q0.fr own (· =31)).trans P (λ_ h=>h) (λ_ h=>h)).trans (q25.fr bX (· =31)) (λ_ h=>h) (λ_ h=>h);rw[hG];exact this.bw (λh=>absurd h (uz _))
def a7U(n f z:Nat):Bs:=⟨n,f,z,λ_=>0,λ_=>0,λ_=>0,DO n 0,[],0,λ_=>0,λ_=>false,0,λ_=>yz,[],λ_=>[]⟩
def a9m(own f)(m:Nat)(hz:∀x,m<=x->own x=0)(R:Rt)(c z q lo:Int)(hc:¬(12<c/\c<=1048576))(hz':¬(256<z/\z<=1048576)):
  Cl R.Y.Y.Y.Y.Y.Y.Y 36 [.agg [Q c,Q z,Q q,Q lo]] f m (λv y m'=>(∃e:Int,e≠0/\v= .cI [.bg,Q e]/\∃t,Fr (λc=>c=2\/c=21) own f m t y m')\/∃(X n sz qt:Nat) (t:aG) (a:nC),v= .cI [.ptr X 0,Q 0]/\c=(n:Nat)/\z=(sz:Nat)/\q=(qt:Nat)/\1<=n/\n<=12/\64<=sz/\sz<=256/\cY t y m' X (a7U n sz qt) 0 0 0 a/\Fr (λc=>c=2\/c=21) own f m t y m'):=by
 intro k T E;refine cUx func36 ?_;simp only[go_sem, ↓ag 59];refine aP ?_;intro F j;have q0:B f m F (pl m 1):=Vv;have om:own m=0:=W;have a0:F m=(.row 23 4 0 true [.num 0,.num 0,.num 0,.num 0] (.cf (bI [Q c,Q z,Q q,Q lo]))):=J3;have n0:¬(0=2\/0=21):=I;apply(OJ own F (pl m 1) _ c z hc hz').bu;rintro v r m1 (⟨rfl,P⟩|⟨S,n,sz,b,A,rfl,rfl,rfl,LK,hn2,hs1,IK,hS,P⟩)
 .refine zS ?_;exact E _ _ _ (.inl ⟨2,I,rfl,own,(q0.trans P).fr _ _⟩)
 have a1:=(P.ah m W Z).trans a0;have hz1:=P.z (λx hx=>hz x W);have l1:m<m1:=T4;simp only[go_sem,a1, ↓ag 60];apply(a7m b r m1 _ hS LK hn2 q lo).bu;rintro v d m2 (⟨rfl,q2⟩|⟨C,qt,dm,ra,rfl,rfl,hR,eS,q2⟩)
 .refine zS ?_;exact E _ _ _ (.inl ⟨2,I,rfl,b,((q0.fr own _).trans P (λ_ h=>h) (λ_ h=>h)).trans (q2.fr b _) (λ_ h=>h) (λ_ h=>h)⟩)
 have a2:=(q2.ah m l1 id).trans a1;have hz2:=q2.z hz1;have l2:=q2.le;simp only[go_sem,a2, ↓ag 61];apply(a3J dm hz2 n LK Z _).bu;rintro v N s ⟨L,A3,g9,la,rfl,hL,q3⟩;have hz3:=q3.z hz2;have l3:=q3.le;simp only[go_sem, ↓ag 62];apply(a5x g9 _).bu;rintro v g m4 ⟨aF1,cS,ba,rfl,hB,i⟩;have hz4:=i.z hz3;have l4:=i.le;simp only[go_sem, ↓ag 63];apply(a7n cS g m4 _).bu;rintro v f5 u ⟨aEV,fQ,qa,rfl,hQ,_,M⟩;have hz5:=M.z hz4;have l5:=M.le;refine zS ?_;refine fG ?_;intro H hG;have q6:Fr (λ_=>False) fQ f5 u (rQ (rQ fQ u 40) (pl u 1) 9) H (pl u 2):=by
  have h:B f5 u H (pl u 2):=by rw[hG];exact(B.w (m2:=u) Qd E1)
  exact((h.fr fQ _).owns Z).owns W
 obtain⟨l,h6⟩:∃o,o=rQ (rQ fQ u 40) (pl u 1) 9:=W;rw[←h6] at q6;have hnm:u≠pl u 1:=W;have q36:Fr (λ_=>False) g9 N s l H (pl u 2):=(i.trans M (λ_ h=>h) (λ_ h=>h)).trans q6 (λ_ h=>h) (λ_ h=>h);have q26:Fr (λ_=>False) dm d m2 l H (pl u 2):=q3.trans q36 (λ_ h=>h) (λ_ h=>h);have q46:Fr (λ_=>False) cS g m4 l H (pl u 2):=M.trans q6 (λ_ h=>h) (λ_ h=>h);refine E _ _ _ (.inr ⟨pl u 1,n,sz,qt,l,⟨L,A3,la,C,ra,aF1,ba,aEV,qa,u,[],0⟩,rfl,rfl,rfl,rfl,LK,hn2,hs1,IK,⟨⟨?_,?_,W⟩,hL.ah q36 J1,hR.ah q26 (λ_ _=>id) id id,hB.ah q46 J1,hQ.ah q6 J1,⟨⟨?_,?_,by show u<pl u 2;unfold pl;omega⟩,Wf.nil 0,λp hp=>bS.nil⟩⟩,?_⟩)
 .rw [hG,eS];exact aK ..
 .rw [h6];exact iY ..
 .rw [hG,aE hnm];exact aK ..
 .rw [h6,oU hnm];exact iY ..
 .exact (((q0.fr own _).trans P (λ_ h=>h) (λ_ h=>h)).trans q2 (λ_ h=>h) (λ_ h=>h.elim)).trans q26 (λ_ h=>h) (λ_ h=>h.elim)
end
structure Ms where
 b:Bs
 tg:aG
 to:bs
 tc:Nat
 tP:Int->Int
 tl:aG
 tp:Nat->dC
 S:Nat->Option Pc
structure Su where
 c:Int
 z:Int
 q:Int
 l:Int
structure mS where
 X:Nat
 aEU:Nat
 aEW:Nat
 b:nC
 t:tX
 p:IB
structure eA(own:aG)(f:av)(m M:Nat)(u:Su)(s:Ms)(aEY N d Kp:Nat)(a:mS):Prop where
 aM:At own 9 f m M (.row 77 7 0 true [.num 0,.num 0,.num 0,.num 0,.bg,.bg,.bg] (.cf (bI [Q u.c,Q u.z,Q u.q,Q u.l,.ptr a.X 0,.ptr a.aEU 0,.ptr a.aEW 0])))
 b:cY own f m a.X s.b aEY N d a.b
 t:fX own f m a.aEU s.tg s.to s.tc s.tP s.tl s.tp a.t
 p:gY own f m a.aEW Kp s.S a.p
@[grind] def PM(c:Nat):Prop:=PBr c\/PZ c\/c=55\/PV c
section
variable {own:aG} {f:av} {m M aEY N d Kp:Nat} {u:Su} {s:Ms} {a:mS}
def eA.ah{P:dF}{e:aG}{L:Nat}(h:eA own f m M u s aEY N d Kp a)(q:Fr P own f m e y L)(g:∀c,PM c->¬P c):eA e y L M u s aEY N d Kp a:=
 ⟨h.aM.ah q (g _ (.inl (.inr (.inl rfl)))),h.b.ah q (λc F=>g c (.inl F)),h.t.ah q (λc F=>g c (.inr (.inl F))) (g _ (.inr (.inr (.inl rfl)))),h.p.ah q (λc F=>g c (.inr (.inr (.inr F))))⟩
@[grind →] theorem eA.gr{L:Nat}(h:eA own f m M u s aEY N d Kp a)(q:B f m y L):eA own y L M u s aEY N d Kp a:=h.ah (q.fr own (λ_=>False)) (λ_ _=>id)
def rep(e n:Int)(l:V)(t:aI):V:=.agg [Q e,Q n,l,.str t]
def eF(e:Int)(R:Rt)(f)(m:Nat):Cl R.Y 52 [Q e] f m (λv y L=>v=rep e 0 .au []/\B f m y L):=by intro k S E;refine cUx func52 ?_;refine zS ?_;exact E _ _ _ ⟨rfl,(B.w (m2:=m) Qc E1)⟩
def jx(n e:Int)(R:Rt)(f)(m:Nat):Cl R.Y.Y 130 [Q n,Q e] f m (λv y L=>v=(if e=0 then rep 0 n .au [] else rep e 0 .au [])/\B f m y L):=by
 intro k S E;by_cases h:e=0
 .subst h;rw[ao rfl] at E;refine cUx func130 ?_;refine zS ?_;exact E _ _ _ ⟨rfl,(B.w (m2:=m) Qc E1)⟩
 .rw [aj h] at E;refine cUx func130 ?_;simp only[go_sem,h, ↓ag 52];refine aP ?_;intro F j;have x:B f m F (pl m 1):=Vv;apply(eF e _ F (pl m 1)).bu;rintro v r l ⟨rfl,P⟩;have a:r m=(.row 54 4 0 true [.num 0,.num 0,.au,.str []] (.cf (zf [.num 0,.num 0,.au,.str []]))):=(P.ah m W).trans J3;unfold rep at E ⊢;refine zS ?_;exact E _ _ _ ⟨rfl,(x.trans P).bw Z⟩
def wo{R:Rt}(H:eA own f m M u s aEY N d Kp a)(h:Int)(g:h<=9223372036854775807):
  Cl R.Y.Y.Y.Y.Y.Y.Y 132 [.ptr M 0,Q h] f m (λv y L=>(∃e:Int,v=Q e/\(e=0↔sG s.b a.b.q h))/\B f m y L):=by
 intro k S E;have i:=H.aM.obj;refine cUx func132 ?_;simp only[go_sem,i, ↓ag 201];apply(a0e H.b h g).bu;rintro v r l ⟨rfl,P⟩;by_cases c:gU s.b.gen s.b.op h
 .rw [ao c];by_cases c2:0<a.b.q.hd (hP h)
  .rw [dI c2];refine zS ?_;exact E _ _ _ ⟨⟨8,rfl,⟨Z,λh=>absurd c2 h.2⟩⟩,P⟩
  .rw [dB c2];refine zS ?_;exact E _ _ _ ⟨⟨0,rfl,⟨λ_=>G,Z⟩⟩,P⟩
 .rw [aj c];have ce:=rB c;refine zS ?_;exact E _ _ _ ⟨⟨_,rfl,⟨Z,λh=>absurd h.1 c⟩⟩,P⟩
def Hi{R:Rt}(H:eA own f m M u s aEY N d Kp a)(hg:∀p,s.b.gen p<=1048575)(r:Int)(hr:r<=9223372036854775807):
  Cl R.Y.Y.Y.Y.Y.Y.Y.Y 139 [.ptr M 0,Q r] f m (λv y m'=>(∃h e:Int,v= .cI [Q h,Q e]/\h<=9223372036854775807/\(e=0->pM s.tg s.to r/\sG s.b a.b.q h/\hP h=s.tl (hP r)))/\B f m y m'):=by
 intro k S E;have hM:=H.aM.obj;refine cUx func139 ?_;simp only[go_sem,hM, ↓ag 219];apply(OC H.t r hr).bu;rintro v f1 l ⟨F,P⟩;by_cases c:pM s.tg s.to r
 case neg=>rw[aj c] at F;obtain⟨e,he,rfl⟩:=F;refine zS ?_;grind
 rw[ao c] at F;subst F;have A:=H.gr P;have z:=A.aM.obj;have x:=A.b.aX.obj;simp only[go_sem,z,x, ↓ag 220];apply(yV A.b.ue (s.tl (hP r)) hg).bu;rintro v f2 C ⟨rfl,o⟩;have n:=A.gr o;have i:=n.aM.obj;by_cases L:s.b.op (s.tl (hP r))=true
 .rw [ao L];have hp:=H.b.TM L;obtain⟨j,z2,w⟩:=ajI (gen:=s.b.gen) (op:=s.b.op) hp W L;generalize ((kN 1 (s.tl (hP r)) (s.b.gen (s.tl (hP r))) 0:Nat):Int)=h0 at j z2 w ⊢;simp only[go_sem, ↓ag 132];apply(wo n h0 w).bu;rintro v f3 m3 ⟨⟨e,rfl,he⟩,q3⟩;refine zS ?_;exact E _ _ _ ⟨W,(P.trans o).trans q3⟩
 .have e0:((0:Nat):Int)=0:=rfl;rw[aj L,e0];simp only[go_sem, ↓ag 132];apply(wo n 0 Z).bu;rintro v f3 m3 ⟨⟨e,rfl,he⟩,q3⟩;have g:e≠0:=λh=>by
   have h1:=(he.1 h).1.1.1.2.1;trivial
  refine zS ?_;exact E _ _ _ ⟨W,(P.trans o).trans q3⟩
end
end
end Go.Ev.Sy
