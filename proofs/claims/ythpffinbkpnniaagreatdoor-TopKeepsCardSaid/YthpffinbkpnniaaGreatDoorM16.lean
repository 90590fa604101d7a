import Derived.Test.YthpffinbkpnniaaGreatDoorM15
set_option linter.all false
set_option maxRecDepth 100000
namespace Go.Ev.Sy
open Go Go.Ev Go.Proofs
open Tryz
noncomputable section
variable{p:Nat}
section
variable {own:aG} {f:av} {m T N cV:Nat} {gen:aG} {op:bs} {P:Int->Int} {a:Nq}
def fI.b(H:fI own f m T N gen op cV P a)(hn:Nd N P p):a.gi (p*3)<N/\a.gi (p*3+1)<N:=by
 constructor
 .rcases qo (a.gi (p*3)) 0 with h|h
  .omega
  .have:=(H.fo.k.b1 p Z hn.2.1 hn.2.2 G).1;trivial
 .rcases qo (a.gi (p*3+1)) 0 with h|h
  .omega
  .have:=(H.fo.k.x1 p Z hn.2.1 hn.2.2 G).1;trivial
def a4H{R:Rt}(H:fI own f m T N gen op cV P a)(p:Nat)(g:p<N)(L:op p=true)(w:∀j,Nd N P j->P j≠p)(hg:gen p<=1099511627776):
  Cl R.Y.Y.Y.Y 231 [.ptr T 0,Q p] f m (λv y m'=>v= .bool true/\∃bo,(∃a',fI bo y m' T N (vV gen p (gen p+1)) (fB op p false) (cV-1) (up P p (-1)) a')/\0<cV/\Fr PF own f m bo y m'):=by
 intro k aEY E;have hT:=H.aT.obj;have F:=HQ H p g;have hn:=H.nd g L;have t:=a07 H.c p Z;rw[H.cn p Z] at t;have M:=wV P p N;have C:wW P N p=0:=by
  rcases qo 0 (wW P N p) with h|h
  .obtain ⟨j,A,h2,u⟩:=M.2.2.1 h;exact absurd u (w j ⟨A,h2,Z⟩)
  .omega
 rw[C] at t;have hP:0<=P p:=hn.2.2;have hPN:P p<N+1:=H.fo.k.pr p Z Z;have hb:=H.b hn;refine cUx func231 ?_;simp only[go_sem,hT,F,t,L, ↓ag 294];apply(CN H.c p g (by rw[H.at2];omega) Z Z (by rw[H.at2];trivial)).bu;rintro v r l ⟨rfl,hc1,q1⟩;have T1:=H.aT.ah q1 I;have hT1:=T1.obj;have q:=H.s.ah q1 I I;have hgn:=xI q p g;simp only[go_sem,hT1,hgn, ↓ag 295];apply(sd q p L hg).bu;rintro v d m2 ⟨rfl,dm,⟨n,z⟩,h0,o⟩;refine zS ?_;have hfo:=H.fo.drop hn w;refine E _ _ _ ⟨rfl,dm,⟨{a with sa:=n,gi:=mV a.gi p,li:=eR a.gi a.li p},⟨T1.ah o I,(H.ap.ah q1 I).ah o I,z,hc1.ah o I,?_,?_,λi F=>?_,λi F=>?_,H.tt,H.n1⟩⟩,h0,?_⟩
 .show nf (mV a.gi p) 2=_;rw[a93,H.pa]
 .show Fo _ (nf (mV a.gi p) 0) (nf (mV a.gi p) 1) _ (nf (eR a.gi a.li p) 1) (nf (eR a.gi a.li p) 0) _;have hP2:0<=a.gi (p*3+2):=by rw[H.at2];exact hP
  rw[a95,a94,a92 _ _ _ hP2,a91 _ _ _ hP2,H.pa];trivial
 .show eR a.gi a.li p (i*3+2)=_;have A:=H.cn i F;have u:=wV P i N;have LK:=H.n1;rw[a90 _ _ _ (by rw[H.at2];trivial),H.at2,Ik,ao (show (0:Int)<=(p:Nat)/\((p:Nat):Int)<(N:Nat) by omega),aj (show ¬(-1:Int)=(i:Nat) by omega)];by_cases e:(i:Int)=P p
  .rw [ao e,ao e.symm,A,cB Z];omega
  .rw [aj e,aj (λh=>e h.symm),A];omega
 .rw [pH];by_cases e:i=p
  .subst e;rw[ao rfl];unfold fB;grind
  .rw [aj Z];unfold fB;rw[aj e];exact H.lo i F
 .exact q1.trans o (S:=PF) (λ_ h=>.inr (.inr (.inr h))) (λx h=>by rcases h with h|h;exact .inr (.inl h);exact .inr (.inr (.inl h)))
def a4G{R:Rt}(H:fI own f m T N gen op cV P a)(l:Nat)(hl:l<N+1):
  Cl R.Y.Y.Y 282 [.ptr a.C 0,Q l] f m (λv f' L=>B f m f' L/\∃xs:aI,xs.length<=4096/\(∀x∈xs,x<N/\op x=true)/\ll f' L v (xs.map λ(x:Nat)=>(x:Int))):=by
 intro k aEY hk;have j:=sK H.c l hl;have LK:=H.n1;have u:nf a.li 1 l=a.li (l*3+1):=G;have hlen:∀xs:aI,xs.Pairwise (λx y:Nat=>a.t x<a.t y)->(∀x∈xs,x<N/\op x=true)->xs.length<=N:=λxs h1 h2=>dg (pq.2 (h1.imp W)) W;refine cUx func282 ?_;refine zS ?_;refine cU (x:=.exit 0) (n:=N+1) (aF0:=λr e f' L=>∃(xs:aI) (bo:aG) (v':V) (c:Int),r+xs.length=N+1/\(eg 0).get e= .ptr a.C 0/\(eg 6).get e=Q c/\(eg 5).get e=v'/\(0<=c->Nd N P c/\P c=l/\∀x∈xs,a.t (x:Nat)<a.t c)/\xs.Pairwise (λx y:Nat=>a.t x<a.t y)/\(∀x∈xs,x<N/\op x=true)/\
   Fr (· =1) (λ_=>0) f m bo f' L/\bS bo 1 f' L 3 1 v' xs.length (xs.map λ(x:Nat)=>Q x))
  (E:=λe f' L=>∃(xs:aI) (v':V) (bo:aG),(eg 5).get e=v'/\B f m f' L/\xs.length<=4096/\(∀x∈xs,x<N/\op x=true)/\bS bo 1 f' L 3 1 v' xs.length (xs.map λ(x:Nat)=>Q x)) ?_ J2 ?_ ?_
 .refine ⟨[],λ_=>0,.au,a.li (l*3+1),J1,E6,E6,E6,λh=>?_,J1,J1,Fr.refl _ _ _ _,bS.nil⟩;have:=H.fo.k.f1 l Z Z G;rw[u] at this;exact⟨⟨h,this.1,Z⟩,Z,J1⟩
 .rintro r e f1 m1 ⟨xs,b,v1,c,hr,e0,z,e5,hc,hpw,YF,s,M⟩ rr kx lR hE;unfold iB;have tI:=hlen xs hpw YF;by_cases h0:0<=c
  .obtain ⟨Cq,hPc,mO⟩:=hc h0;obtain⟨p,rfl⟩:∃p:Nat,c=p:=⟨c.toNat,Z⟩;have hp:p<N:=by have:=Cq.2.1;omega
   have Dm:op p=true:=(H.lo p hp).1 Z;have rR:∀x∈xs++ [p],x<N/\op x=true:=λx S=>by grind
   have i:(xs++ [p]).Pairwise (λx y:Nat=>a.t x<a.t y):=W;have hl2:=hlen _ i rR;rw[eZ,a1h] at hl2;simp only[go_sem,e0,z,e5,h0,M.live];refine gE ?_;intro F j;have o:B f1 m1 F (pl m1 1):=by rw[j];exact(B.w (m2:=m1) Qc E1)
   refine dv (M.ah (o.fr b (λ_=>False)) id) (n':=1) rfl (qS _) Z Z ?_;intro v2 dm d m2 A q3;have gg:Fr (· =1) (λ_=>0) f m dm d m2:=(s.trans (o.fr b (· =1)) (λ_ h=>h) (λ_ h=>h)).trans q3 (λ_ h=>h) Z;have hNx:=CM (H.ah (gg.gr.fr own (λ_=>False)) (λ_ _=>id)).c p hp;simp only[go_sem,A.live,hNx];refine lR (r-1) _ _ _ Z ⟨xs++ [p],dm,v2,a.gi (p*3+1),W,E6,E6,E6,λh=>?_,i,rR,gg,?_⟩
   .have hh:=H.fo.nx Cq G;rw[ov] at hh;grind
   .rw [iH,eZ];exact A
  .refine zS ?_;exact hE _ _ _ ⟨xs,v1,b,e5,s.gr,Z,YF,M⟩
 .rintro e f1 m1 ⟨xs,v1,b,e5,g,hl,YF,M⟩;simp only[go_sem,e5,M.live];exact hk _ _ _ ⟨g,xs,hl,YF,M.toI⟩
def YZ{R:Rt}(H:fI own f m T N gen op cV P a):
  Cl R.Y.Y.Y.Y 204 [.ptr T 0] f m (λv y L=>B f m y L/\∃xs:aI,xs.length<=4096/\(∀x∈xs,x<N/\op x=true)/\ll y L v (xs.map λ(x:Nat)=>(x:Int))):=by
 intro k c E;have b:=H.aT.obj;have F:=Cu H;have w:N<=9223372036854775807:=O8;have d:∀(R:Rt) (L:Nat) (k:cR),R.Y.call 283 [.ptr T 0] (.fn f L) k=k (Q N) (.fn f L):=λR L k=>by refine cUx func283 ?_;exact zC
 refine cUx func204 ?_;simp only[go_sem,F,d,b, ↓ag 282];apply(a4G H N Z).bu;rintro v r l ⟨g,xs,t,S,h⟩;simp only[go_sem,bN h.bC];grind
def a8N(own f)(m N:Nat)(o:N<=4096)(R:Rt):
  Cl R.Y.Y 64 [Q N] f m (λv y L=>∃T t a,v= .ptr T 0/\fI t y L T N (λ_=>0) (λ_=>false) 0 (λ_=>-1) a/\Fr (λ_=>False) own f m t y L):=by
 intro k c E;have c1:¬((N:Int)<0):=Z;have c2:¬((4096:Int)<N):=Z;have w1:IntKind.i64.wrap ((N:Int)+1)=((N+1:Nat):Int):=Qf;have d0:(0:Int)<=(N:Nat):=Z;have d1:N<=4294967296:=Z;have d2:8*N<=281474976710656:=Z;have d5:N<=9223372036854775807:=Z;have u:=rZ 373 378 380 (N+1) N Z Z;refine cUx func64 ?_;simp only[go_sem,c1,c2,w1,d1,d2, ↓ag 116];refine aP ?_;intro F hF;have x:Fr (λ_=>False) own f m (cm own m [50]) F (pl m 1):=by refine Fr.cm (P:=λ_=>False) ?_ G;rw[hF];exact B.fr (B.w (m2:=m) W W) _ _
 have q:At (cm own m [50]) 50 F (pl m 1) m (.row 3 N 0 true [.num 0] (.cf (zf [.num 0]))):=ez O7 rfl G;apply(xH (cm own m [50]) 51 F (pl m 1) N o _).bu;rintro v r l ⟨S,b,d,rfl,M,q1⟩;simp only[go_sem,w1,u,IU,IV];refine fG ?_;intro H e;have p:Fr (λ_=>False) b r l (cm b l [53,53,53,50]) H (pl l 4):=by refine Fr.cm (P:=λ_=>False) ?_ G;rw[e];exact B.fr (B.w (m2:=l) W W) _ _
 have g:l=pl l 0:=rfl;have s:nf (λ_=>-1) 0=(λ_=>-1:Int->Int)/\nf (λ_=>-1) 1=(λ_=>-1:Int->Int)/\nf (λ_=>-1) 2=(λ_=>-1:Int->Int):=by refine⟨?_,?_,?_⟩<;>funext k<;>unfold nf<;>split<;>rfl
 have A:nf QE 0=(λ_=>-1:Int->Int)/\nf QE 1=(λ_=>-1:Int->Int):=by refine⟨?_,?_⟩<;>funext k<;>unfold nf QE<;>split<;>first|rfl|omega
 have hc:∀(n:Nat) (j:Int),0<=j->wW (λ_=>-1) n j=0:=λn j z=>by
  induction n with
  |zero=>rfl
  |succ n ih=>unfold wW;omega
 refine E _ _ _ ⟨pl l 3,cm b l [53,53,53,50],⟨S,d,m,zf [.num 0],pl l 2,l,pl l 1,λ_=>-1,QE,λ_=>0⟩,rfl,⟨gh (i:=3) R6 rfl G,(q.ah q1 id).ah p id,M.ah p id id,⟨gh (i:=2) R6 rfl G,ez R6 rfl I,gh (i:=1) R6 rfl I,Z,Z⟩,W,?_,λj z=>?_,λk E=>G,⟨1,λ_=>Nat.one_pos⟩,o⟩,?_⟩
 .show Fo N (nf (λ_=>-1) 0) (nf (λ_=>-1) 1) _ (nf QE 1) (nf QE 0) _;rw[s.1,s.2.1,A.1,A.2];constructor
  .constructor<;>intros<;>simp at * <;> omega
  omega
 .rw [hc _ _ Z];show QE (j*3+2)=0;unfold QE;omega
 .exact (x.trans q1 (S:=λ_=>False) (λ_ h=>h) (λ_ h=>h)).trans p (λ_ h=>h) (λ_ h=>h)
end
variable{j p1:Nat}
inductive Rem (F X:Int->Int):dC->Int->List (Int×Bool)->Prop
 |nil {c:Int}:Rem F X [] c []
 |mk {s:Int} {st:dC} {c x:Int} {l r:List (Int×Bool)}:Wk F X c l->Rem F X st x r->(st= []\/x=X s)->Rem F X (s::st) c (l++(s,false)::r)
def Rem.push{F X:Int->Int}{s c:Int}{st:dC}{o:List (Int×Bool)}(h:Rem F X (s::st) c o)(hc:0<=c):∃a,o=(c,true)::a/\Rem F X (c::s::st) (F c) a:=by
 cases h with
 |mk w d S=>
  cases w with
  |nil h=>omega
  |node _ E u=>exact⟨_,W,.mk E (.mk u d S) Z⟩
def Rem.pop{F X:Int->Int}{s c:Int}{st:dC}{o:List (Int×Bool)}(h:Rem F X (s::st) c o)(hc:c<0):∃x a,o=(s,false)::a/\Rem F X st x a/\(st= []\/x=X s):=by
 cases h with
 |mk w d S=>
  cases w with
  |nil _=>grind
  |node h=>omega
def Rem.any{F X:Int->Int}{c d:Int}{o:List (Int×Bool)}(h:Rem F X [] c o):Rem F X [] d o:=by cases h;exact .nil
@[grind] def xp(c:Nat):Prop:=c=3\/c=4\/c=7
structure WSt(own:aG)(f:av)(m y p1 p2:Nat)(F X':Int->Int)(ev:List (Int×Bool))(X:Nat->aG->av->dF)(j:Nat)(st:dC)(c:Int)(e:Env)(bo:aG)(f':av)(m':Nat)(v:V):Prop where
 e0:(eg 0).get e= .yield y
 e1:(eg 1).get e= .ptr p1 0
 e2:(eg 2).get e= .ptr p2 0
 e4:(eg 4).get e=v
 e5:(eg 5).get e=Q c
 s:bS bo 7 f' m' 3 1 v st.length (st.reverse.map λ(x:Int)=>Q x)
 x:X j bo f' m'
 q:Fr xp own f m bo f' m'
 jl:j<=ev.length
 r:Rem F X' st c (ev.drop j)
 l:st.length<=j
def drop_cons{α:Type}{l:List α}{x:α}{t:List α}(h:l.drop j=x::t):∃z:j<l.length,l[j]=x/\l.drop (j+1)=t:=by
 have z:j<l.length:=by
  rcases dN j l.length with A|A
  .trivial
  .rw [FQ A] at h;cases h
 rw[Og z] at h;grind
section
variable {own:aG} {f:av} {m T N cV:Nat} {gen:aG} {op:bs} {P:Int->Int} {a:Nq}
def IX{R:Rt}{y p2:Nat}{l:List (Int×Bool)}(H:fI own f m T N gen op cV P a)(hp:p<N)(ho:op p=true)
  (h1:f p1=(.row 185 1 0 true [.bg] (.cf (bI [.ptr T 0])))) (o1:¬xp (own p1)) (m1:p1<m) (h2:f p2=(.row 3 1 0 true [.num 0] (.cf (bI [Q p])))) (o2:¬xp (own p2)) (m2:p2<m)
  (ev:List (Int×Bool)) (hev:ev=((p:Int),true)::(l++ [((p:Int),false)])) (w:Wk (nf a.li 1) (nf a.gi 1) (nf a.li 1 p) l) (hl:ev.length<=9000) (hn:∀e∈ev,∃n:Nat,e.1=n/\n<N/\op n=true)
  (X:Nat->aG->av->dF)
  (hX:∀j own f m t f' L,X j own f m->Fr (· =7) own f m t f' L->X j t f' L)
  (h0:X 0 own f m)
  (hy:∀j own f m,(z:j<ev.length)->X j own f m->Rd R.Y.Y.Y.Y y [Q ev[j].1,.bool ev[j].2] f m (λb f' L=>b=true/\∃t,X (j+1) t f' L/\Fr (λc=>c=3\/c=4) own f m t f' L)):
  Cl R.Y.Y.Y.Y.Y 418 [.yield y,.ptr p1 0,.ptr p2 0] f m (λ_ f' L=>∃t,X ev.length t f' L/\Fr xp own f m t f' L):=by
 intro k aEY hk;have hi:=HQ H p hp;have u:p1≠m:=Z;have e2:p2≠m:=Z;have hPF:∀c,PF c->¬xp c:=λc h g=>by unfold PF at h;unfold xp at g;omega
 have h34:∀c:Nat,c=3\/c=4->xp c:=λc h=>h.elim .inl (λh=>.inr (.inl h));have h7:∀c:Nat,c=7->xp c:=λc h=>.inr (.inr h);have key:∀t f' L,Fr xp own f m t f' L->f' p1=(.row 185 1 0 true [.bg] (.cf (bI [.ptr T 0])))/\f' p2=(.row 3 1 0 true [.num 0] (.cf (bI [Q p])))/\fI t f' L T N gen op cV P a:=λt f' L q=>⟨(q.ah p1 m1 o1).trans h1,(q.ah p2 m2 o2).trans h2,H.ah q hPF⟩;have hl0:0<ev.length:=by rw[hev];simp
 have g0:ev[0]=((p:Int),true):=by simp[hev]
 refine cUx func418 ?_;refine zS ?_;refine(show ∀F,F=bw f m (.row 3 1 0 true [.num 0] (.cf (bI [Q p])))->sN K R.Y.Y.Y.Y (.yield y) [Q p,.bool true] (.fn F (pl m 1)) _=aEY from ?_) _ rfl;intro F hF;have q0:Fr (· =7) own f m (cm own m [7]) F (pl m 1):=by refine Fr.cm (P:=(· =7)) ?_ G;rw[hF];exact B.fr (B.w (m2:=m) Qc E1) _ _
 have s0:bS (cm own m [7]) 7 F (pl m 1) 3 1 (.sl m 0 1 (.known 1)) 1 [Q p]:=by refine .inr ⟨m,0,.known 1,1,true,_,bI [Q p],rfl,ez O2 rfl G,rfl,G,W,λj z=>?_,⟨bP _,bP _⟩⟩;obtain rfl:j=0:=Z;exact iW _
 have y0:=hy 0 _ F (pl m 1) hl0 (hX 0 _ _ _ _ _ _ h0 q0);rw[g0] at y0;refine y0 _ _ ?_;rintro b f1 M1 ⟨rfl,bX,Ny,q1⟩;have Ei:=q0.trans q1 (S:=xp) h7 h34;obtain⟨k1,k2,k3⟩:=key _ _ _ Ei;have IN:=EY k3 p hp ho;refine zS ?_;refine cU (x:=.exit 0) (n:=2*ev.length+1) (aF0:=λr e f' L=>∃j st c t v,2*(ev.length-j)<r/\WSt own f m y p1 p2 (nf a.li 1) (nf a.gi 1) ev X j st c e t f' L v)
  (E:=λe f' L=>∃t,X ev.length t f' L/\Fr xp own f m t f' L) ?_ J2 ?_ ?_
 .refine ⟨1,[(p:Int)],nf a.li 1 p,bX,.sl m 0 1 (.known 1),Z,E6,E6,E6,E6,E6,s0.ah q1 I,Ny,Ei,hl0,?_,bP _⟩;rw[hev];exact .mk w (.nil (c:=0)) W
 .rintro r e d M2 ⟨j,st,c,M,v,hjr,S⟩ rr kx lR hE;have ln:=λq=>S.s.jD (by have:=S.l;have:=S.jl;omega) q;have e0:=S.e0;have e1':=S.e1;have e2':=S.e2;have C:=S.e4;have e5:=S.e5;unfold iB;cases st with
  |nil=>
   have hr:=S.r;have hd:ev.drop j= []:=by generalize ev.drop j=r at hr;cases hr;rfl
   have z:j=ev.length:=by have:=List.drop_eq_nil_iff.1 hd;have:=S.jl;omega
   simp only[go_sem,C,S.s.live,ln,FP];exact hE _ _ _ ⟨M,z▸S.x,S.q⟩
  |cons s st=>
   have c0:(0:Int)<((st.length+1:Nat):Int):=Z;simp only[go_sem,C,S.s.live,ln,c0];refine cU (x:=.exit 2) (n:=ev.length+1) (aF0:=λr e f' L=>∃j' s st c t v,j<=j'/\ev.length-j'<r/\WSt own f m y p1 p2 (nf a.li 1) (nf a.gi 1) ev X j' (s::st) c e t f' L v)
    (E:=λe f' L=>∃j' s st c t v,j<=j'/\c<0/\WSt own f m y p1 p2 (nf a.li 1) (nf a.gi 1) ev X j' (s::st) c e t f' L v) ?_ J2 ?_ ?_
   .exact ⟨j,s,st,c,M,v,Z,Z,E6,E6,E6,E6,E6,S.s,S.x,S.q,S.jl,S.r,S.l⟩
   .clear ln e0 e1' e2' C e5 c0 S lR hE rr kx;rintro r e d M2 ⟨j',s,st,c,M,v,hjj,hr,S⟩ rr kx lR hE;have e0:=S.e0;have e1':=S.e1;have e2':=S.e2;have C:=S.e4;have e5:=S.e5;unfold iB;by_cases hc:0<=c
    .obtain ⟨ev',hd,acM⟩:=S.r.push hc;obtain⟨z,hg,hd2⟩:=drop_cons hd;obtain⟨n,LK,hn2,DK⟩:=hn _ (eL z);rw[hg] at LK;obtain rfl:c=(n:Int):=LK;simp only[go_sem,e0,C,e5,hc,S.s.live];refine gE ?_;intro F3 tW;have q2:B d M2 F3 (pl M2 1):=by rw[tW];exact(B.w (m2:=M2) Qc E1)
     have sl:=S.l;refine dv (S.s.ah (q2.fr M (λ_=>False)) id) (n':=1) rfl (qS _) Z Z ?_;intro v2 g9 f3 M3 xj q3;have WK:Fr (· =7) M d M2 g9 f3 M3:=(q2.fr M (· =7)).trans q3 Z Z;simp only[go_sem,xj.live];have y1:=hy j' _ f3 M3 z (hX j' _ _ _ _ _ _ S.x WK);rw[hg] at y1;refine y1 _ _ ?_;rintro b f4 M4 ⟨rfl,cS,Cm,q4⟩;have A:=(S.q.trans WK (S:=xp) (λ_ h=>h) h7).trans q4 (λ_ h=>h) h34;obtain⟨k1,k2,k3⟩:=key _ _ _ A;have IN:=EY k3 n hn2 DK;refine zS ?_;refine lR (r-1) _ _ _ Z ⟨j'+1,n,s::st,nf a.li 1 n,cS,v2,Z,Z,E6,E6,E6,E6,E6,?_,Cm,A,z,W,W⟩;have:=xj.ah q4 I;grind
    .refine zS ?_;exact hE _ _ _ ⟨j',s,st,c,M,v,hjj,Z,E6,E6,E6,E6,E6,S.s,S.x,S.q,S.jl,S.r,S.l⟩
   .clear ln e0 e1' e2' C e5 c0 S;rintro e d M2 ⟨j',s,st,c,M,v,hjj,hc,S⟩;obtain⟨x,ev',hd,acM,hx⟩:=S.r.pop hc;obtain⟨z,hg,hd2⟩:=drop_cons hd;obtain⟨n,LK,hn2,DK⟩:=hn _ (eL z);rw[hg] at LK;obtain rfl:s=(n:Int):=LK;have e0:=S.e0;have e1':=S.e1;have e2':=S.e2;have C:=S.e4;have e5:=S.e5;have sl:=S.l;rw[kg] at sl;have hs:=S.s;have hlen:((n:Int)::st).length=st.length+1:=rfl;rw[hlen] at hs;rcases hs with⟨_,h,_⟩|⟨i,o,cp,mm,ww,zs,g,rfl,hA,g3,g4,g5,g6,g7⟩
    .omega
    have hs:bS M 7 d M2 3 1 (.sl i o (st.length+1) cp) (st.length+1) (((n:Int)::st).reverse.map λ(x:Int)=>Q x):=.inr ⟨i,o,cp,mm,ww,zs,g,rfl,hA,g3,g4,g5,g6,g7⟩;have yl:=hs.pre (h:=st.length) Z;have et:(((n:Int)::st).reverse.map λ(x:Int)=>Q x).take (st.length*1)=st.reverse.map λ(x:Int)=>Q x:=by rw[NZ,iH,nV,List.take_append_of_le_length J1,Ov J1]
    rw[et] at yl;have gl:g (o+st.length)=Q n:=by rw[g5 _ Z,NZ,iH,mj,aj J1];simp[bI]
    have hob:=hA.obj;have b1:st.length<st.length+1:=Z;have b2:o+st.length<mm:=Z;have b3:IntKind.i64.wrap (((st.length+1:Nat):Int)-1)=(st.length:Nat):=Ql;have b4:st.length+1<=9223372036854775807:=Z;have b5:st.length<=9223372036854775807:=Z;have cut:=λq=>As (b:=i) (q:=q) g7 (show st.length<=st.length+1 by omega);simp only[go_sem,e0,C,b1,b2,b3,b4,hob,gl, ↓cut];have y1:=hy j' _ d M2 z S.x;rw[hg] at y1;refine y1 _ _ ?_;rintro b f4 M4 ⟨rfl,cS,Cm,q4⟩;have A:=S.q.trans q4 (λ_ h=>h) h34;obtain⟨k1,k2,k3⟩:=key _ _ _ A;have hNx:=a4F k3 n hn2;by_cases Nz:st.length=0
    .obtain rfl:=pk Nz;refine zS ?_;refine lR (2*(ev.length-(j'+1))+1) _ _ _ Z ⟨j'+1,[],c,cS,.sl i o 0 cp,Z,E6,E6,E6,E6,E6,yl.ah q4 I,Cm,A,z,by rw[hd2];exact acM.any,Z⟩
    .have b6:(0:Int)<(st.length:Nat):=by omega
     have hx:=hx.resolve_left (λh=>Nz (by rw[h];rfl));refine zS ?_;refine lR (2*(ev.length-(j'+1))+1) _ _ _ Z ⟨j'+1,st,nf a.gi 1 n,cS,.sl i o st.length cp,Z,E6,E6,E6,E6,E6,yl.ah q4 I,Cm,A,z,W,Z⟩
 .rintro e f' L ⟨t,hx,q⟩;refine zS ?_;grind
end
variable{S c cV m m' m2 te:Nat}{bX gen own:aG}{f f':av}
@[go_sem]def ajq(a b:Bool)(q:Bool->Bool):eqB (.bool a) (.bool b) q=q (pb (a=b)):=by cases a<;>cases b<;>first|(rw [mZ rfl];rfl)|(rw [kM I];rfl)
def Re(own bX:aG)(m c:Nat):Prop:=∀x,x<m->own x=c->bX x=c
def At.re{x:Nat}{o:O}(h:At own c f m x o)(r:Re own bX m c):At bX c f m x o:=⟨h.obj,r x h.lt h.own,h.lt⟩
def bS.re{z:Nat}{v:V}{n:Nat}{cs:ay}(h:bS own c f m te z v n cs)(r:Re own bX m c):bS bX c f m te z v n cs:=by
 rcases h with h|⟨i,o,cp,a,w,P,g,A,N,M⟩
 .exact .inl h
 .exact .inr ⟨i,o,cp,a,w,P,g,A,N.re r,M⟩
def fF.re{N:Nat}{op:bs}{a:rG}(h:fF own c f m S N gen op cV a)(r:Re own bX m c)(n:Re own bX m (c+1)):fF bX c f m S N gen op cV a:=
 ⟨h.aS.re r,h.ar.re r,h.am.re r,h.wf,h.cv.re n,h.n1,h.g,h.mo,h.nd,h.clt,h.all,h.fr,h.new,h.cV⟩
def Fr.xD{P:dF}{t:aG}(h:Fr P own f m t f' m')(hn:∀x,x<m->¬P (own x)):B f m f' m':=⟨h.le,λx S=>h.ah x S W⟩
def bS.toZ{n:Nat}{v:V}{xs:dC}(h:bS own c f m 3 1 v n (xs.map λ(x:Int)=>Q x)):ll f m v xs:=by
 have b:=h.cells;rw[dT,nV] at b;rcases h.uf with⟨A,N,M⟩|⟨i,o,cp,a,t,w,P,g,A,N,M,u,r,F,y⟩
 .exact .inl ⟨A,Xn⟩
 .exact .inr ⟨i,o,cp,a,t,w,P,g,W,N,M,Z,λj z=>by rw[F j Z,k9 _ _ z]⟩
def Fs(f:av)(q m te z:Nat)(v:V)(n:Nat)(cs:ay):Prop:=
 (v= .au/\n=0/\cs= [])\/∃i o S a w P g,v= .sl i o n S/\q<=i/\i<m/\f i= .row te a 0 w P (.cf g)/\cs.length=n*z/\o+n*z<=a/\(∀j,j<n*z->g (o+j)=bI cs j)/\(∀j,j<a->g j≠ .undef)/\IC S n o z a
section
variable {own:aG} {f f':av} {m m' te z n c:Nat} {v:V} {cs:ay}
def Fs.to(h:Fs f' m m' te z v n cs)(g:B f m f' m')(own)(c:Nat):∃t,Fr (λ_=>False) own f m t f' m'/\bS t c f' m' te z v n cs:=by
 rcases h with h|⟨i,o,cp,a,w,P,F,A,N,M,u,r⟩
 .exact ⟨own,g.fr _ _,.inl h⟩
 .refine ⟨λx=>if x=i then c else own x,⟨g.le,λx S=>W,λx S _=>g.ah x S,λs x S=>W⟩,.inr ⟨i,o,cp,a,w,P,F,A,⟨u,W,M⟩,r⟩⟩
def bS.fs(h:bS own c f' m' te z v n cs)(hn:∀x,x<m->own x≠c):Fs f' m m' te z v n cs:=by
 rcases h with h|⟨i,o,cp,a,w,P,F,A,N,M⟩
 .exact .inl h
 .exact .inr ⟨i,o,cp,a,w,P,F,A,Nat.le_of_not_lt (λh=>hn i h N.own),N.lt,N.obj,M⟩
@[grind →] theorem Fs.gr{d:av}(h:Fs f' m m' te z v n cs)(g:B f' m' d m2):Fs d m m2 te z v n cs:=by
 rcases h with h|⟨i,o,cp,a,w,P,F,A,N,M,u,r⟩
 .exact .inl h
 .exact .inr ⟨i,o,cp,a,w,P,F,A,N,bW M g.le,by rw[g.ah i M];trivial,r⟩
def Fs.lo{q:Nat}(h:Fs f' m m' te z v n cs)(R:q<=m):Fs f' q m' te z v n cs:=by
 rcases h with h|⟨i,o,cp,a,w,P,F,A,N,M,u,r⟩
 .exact .inl h
 .exact .inr ⟨i,o,cp,a,w,P,F,A,Z,M,u,r⟩
def Fs.sl(h:Fs f' m m' te z v n cs):∃t,bS t 7 f' m' te z v n cs:=by
 rcases h with h|⟨i,o,cp,a,w,P,F,A,N,M,u,r⟩
 .exact ⟨λ_=>0,.inl h⟩
 .exact ⟨λ_=>7,.inr ⟨i,o,cp,a,w,P,F,A,⟨u,rfl,M⟩,r⟩⟩
end
def Fs.toI{q n:Nat}{v:V}{xs:aI}(h:Fs f' q m' 3 1 v n (xs.map λ(x:Nat)=>Q x)):ll f' m' v (xs.map λ(x:Nat)=>(x:Int)):=by obtain⟨_,s⟩:=h.sl;exact s.toI
def clr(own:aG)(m:Nat):aG:=λx=>if x<m then(if own x=3\/own x=4\/own x=7 then 0 else own x) else 0
def adX(own)(m:Nat)(h:¬xp c):Re own (clr own m) m c:=λx S e=>by unfold clr;grind
def a5g(own)(m:Nat):∀x,¬xp (clr own m x):=λx=>by unfold clr;grind
def Ks(b:Bool){o:List (Int×Bool)}(z:j<o.length):jQ b (o.take (j+1))=jQ b (o.take j)++if o[j].2=b then [o[j].1] else []:=by rw[jr z,a7v];congr 1;unfold jQ;grind
section
variable {own:aG} {f:av} {m T N cV:Nat} {gen:aG} {op:bs} {P:Int->Int} {a:Nq}
def fI.re(h:fI own f m T N gen op cV P a)(r:∀c,PF c->Re own bX m c):fI bX f m T N gen op cV P a:=
 ⟨h.aT.re W,h.ap.re W,h.s.re W W,⟨h.c.aC.re W,h.c.an.re W,h.c.al.re W,h.c.n1,h.c.l1⟩,h.pa,h.fo,h.cn,h.lo,h.tt,h.n1⟩
def Oz(T:Nat)(p:Int)(R:Rt)(f)(m:Nat)(k):R.Y.call 371 [.ptr T 0,Q p] (.fn f m) k=k (.fn 418 [] [.ptr m 0,.ptr (pl m 1) 0]) (.fn (bw (bw f m (.row 185 1 0 true [.bg] (.cf (bI [.ptr T 0])))) (pl m 1) (.row 3 1 0 true [.num 0] (.cf (bI [Q p])))) (pl m 2)):=by refine cUx func371 ?_;exact zC
def AK{R:Rt}(H:fI own f m T N gen op cV P a)(p:Nat)(hp:p<N)(L:op p=true)(MG:Bool)
  (o:List (Int×Bool)) {l:List (Int×Bool)} (hev:o=((p:Int),true)::(l++ [((p:Int),false)])) (w:Wk (nf a.li 1) (nf a.gi 1) (nf a.li 1 p) l) (hl:o.length<=9000) (hn:∀e∈o,∃n:Nat,e.1=n/\n<N/\op n=true):
  Cl R.Y.Y.Y.Y.Y.Y 312 [.ptr T 0,Q p,.bool MG] f m (λv f' m'=>B f m f' m'/\Fs f' m m' 3 1 v (jQ MG o).length ((jQ MG o).map λ(x:Int)=>Q x)):=by
 intro k aEY E;refine cUx func312 ?_;simp only[go_sem,Oz];refine sM ?_;intro lo IL;refine ld ?_;intro F hF;have q3:Fr (λ_=>False) (clr own m) f m (cm (clr own m) m [4,4,0,0,4,4]) F (pl m 6):=Fr.cm (P:=λ_=>False) (B.fr Vy _ _) G;have H0:=H.re (bX:=clr own m) (λc h=>adX own m W);have b2:(cm (clr own m) m [4,4,0,0,4,4]) (pl m 2)=0:=G0;have b3:(cm (clr own m) m [4,4,0,0,4,4]) (pl m 3)=0:=G0;refine(IX (H0.ah q3 (λ_ _=>id)) hp L O7 W W O7 W W o hev w hl hn
  (X:=λj t f' m'=>∃s g,At t 4 f' m' m (.row 4 1 0 true [.bool false] (.cf (bI [.bool MG])))/\At t 4 f' m' (pl m 1) (.row 32 1 0 true [.au] (.cf g))/\g 0=s/\bS t 3 f' m' 3 1 s (jQ MG (o.take j)).length ((jQ MG (o.take j)).map λ(x:Int)=>Q x)/\At t 4 f' m' (pl m 4) (.sJ (some []))/\At t 4 f' m' (pl m 5) lo) ?_ ?_ ?_).go ?_
 .rintro j b f1 m1 M d C ⟨s,g,A,h2,h3,u,r,h6⟩ q;exact⟨s,g,A.ah q I,h2.ah q I,h3,u.ah q I,r.ah q I,h6.ah q I⟩
 .refine ⟨.au,_,⟨?_,?_,?_⟩,⟨?_,?_,?_⟩,nU _ _,bS.nil,⟨?_,?_,?_⟩,⟨?_,?_,?_⟩⟩
  all_goals first|(rw [hF];exact zC;done)|(unfold cm pl;grind)|(unfold cm;grind)|grind
 .rintro j b f1 m1 z ⟨s,g,A,h2,h3,u,r,h6⟩;intro k T E;have o6:=h6.obj;have o5:=r.obj;have o2:=h2.obj;have o1:=A.obj;have hlv:=u.live;have HC:=u.bt;have l6:=h6.lt;have l2:=h2.lt;have l1:=A.lt;have d05:m≠pl m 5:=W;have d01:m≠pl m 1:=W;have d15:pl m 1≠pl m 5:=W;have d45:pl m 4≠pl m 5:=W;have d41:pl m 4≠pl m 1:=W;by_cases hb:o[j].2=MG
  .have e5:pl m 5≠m1:=by omega
   have e1:pl m 1≠m1:=Z;have ln:(jQ MG (o.take j)).length<=9000:=by unfold jQ;rw[dT];exact W
   simp only[go_sem,kL,o6,IL,o2,o1,h3,HC,hb,d05,d15];refine gE ?_;intro y IN;have q2:Fr (· =4) b f1 m1 b y (pl m1 1):=by rw[IN];exact(Fr.w (m2:=m1) W W)
   refine dv (u.ah q2 I) (n':=1) rfl (qS _) Z Z ?_;intro v2 M d C xj i;have kk:∀x,x<m1->b x=4->x≠pl m 5->d x=f1 x:=λx hx L xl=>by have n1:x≠m1:=Z;rw[i.ah x W Z,IN];exact zC
   have k5:d (pl m 5)=y (pl m 5):=i.ah _ W W;rw[IN] at k5;simp only[go_sem,e5] at k5;have k1:d (pl m 1)=_:=(kk _ l2 h2.own d15).trans o2;simp only[go_sem,k5,k1,xj.one,d15.symm];have ks:∀x,x<m1->b x=4->M x=4/\x<C:=λx hx L=>⟨by rw[i.same x W];trivial,W⟩;refine fG ?_;intro aEZ hG;have q5:Fr (· =4) M d C M aEZ C:=by rw[hG];exact W
   refine E _ _ _ ⟨rfl,M,⟨v2,cy g 0 v2,⟨?_,W,W⟩,⟨?_,W,W⟩,G,?_,⟨?_,W,W⟩,⟨?_,W,W⟩⟩,((q2.trans i (S:=λc=>c=3\/c=4) Z Z).trans q5 Z Z)⟩
   .rw [hG,aE d05,aE d01,kk _ l1 A.own d05];trivial
   .rw [hG,aE d15];exact aK ..
   .rw [Ks _ z,ao hb,iH,eZ];exact xj.ah q5 I
   .rw [hG,aE d45,aE d41,kk _ r.lt r.own d45];trivial
   .rw [hG,IL];exact aK ..
  .have e5:pl m 5≠m1:=by omega
   simp only[go_sem,kL,o6,IL,o1,hb,d05];refine fG ?_;intro aEZ hG;have q5:Fr (· =4) b f1 m1 b aEZ m1:=by rw[hG];exact W
   refine E _ _ _ ⟨rfl,b,⟨s,g,⟨?_,A.own,l1⟩,⟨?_,h2.own,l2⟩,h3,?_,⟨?_,r.own,r.lt⟩,⟨?_,h6.own,l6⟩⟩,W⟩
   .rw [hG,aE d05,aE d05];trivial
   .rw [hG,aE d15,aE d15];trivial
   .rw [Ks _ z,aj hb,j9];exact u.ah q5 I
   .rw [hG,aE d45,aE d45];trivial
   .rw [hG,IL];exact aK ..
 .rintro v1 d C ⟨M,⟨s,g,A,h2,h3,u,r,h6⟩,i⟩;have o6:=h6.obj;have o5:=r.obj;have o2:=h2.obj;have hlv:=u.live;have HC:=u.bt;have d15:pl m 1≠pl m 5:=W;have d45:pl m 4≠pl m 5:=W;rw[mJ] at u;refine zS ?_;refine fG ?_;intro aEZ hG;have q5:Fr (· =4) M d C M aEZ C:=by
   rw[hG]
   repeat grind
  have qq:=(q3.trans i (S:=xp) (λ_ h=>h.elim) (λ_ h=>h)).trans q5 (λ_ h=>h) (λ_ h=>.inr (.inl h));exact E _ _ _ ⟨qq.xD (λx _=>a5g own m x),(u.ah q5 I).fs (λx hx e=>by have A:=qq.same x hx;rw[A] at e;exact a5g own m x (.inl e))⟩
end
def Wk.perm{F X:Int->Int}{c:Int}{l:List (Int×Bool)}(w:Wk F X c l):(jQ false l).Perm (jQ true l):=by
 induction w with
 |nil _=>trivial
 |node s E u n L=>rw[mY,sm];grind
def TJ:∀l:List (Int×Bool),l.length=(jQ true l).length+(jQ false l).length
 |[]=>rfl
 |(a,b)::l=>by have:=TJ l;cases b<;>simp[jQ] at this ⊢ <;> omega
structure Sb(N:Nat)(P:Int->Int)(op:bs)(p:Nat)(pre post:aI):Prop where
 nd:pre.Nodup
 ok:∀z∈pre,z<N/\op z=true
 pm:post.Perm pre
 hd:p∈pre
 up:∀M:Int->Prop,(∀k,Nd N P k->M (P k)->M k)->M p->∀z∈pre,M (z:Nat)
 gd:Gd N P (λ_=>False) (post.map λ(x:Nat)=>(x:Int))
def cast_toNat:∀{l:dC},(∀z∈l,0<=z)->(l.map Int.toNat).map (λ(x:Nat)=>(x:Int))=l
 |[],_=>rfl
 |a::l,h=>by have A:=h a J1;rw[jn,jn,cast_toNat W];grind
def LC{l:dC}(h:∀z∈l,0<=z):(l.map Int.toNat).map (λ(x:Nat)=>Q x)=l.map (λ(x:Int)=>Q x):=by rw[lE];exact NS W
def yP{l:dC}(h:∀z∈l,0<=z)(hd:l.Nodup):(l.map Int.toNat).Nodup:=by rw[pq,uA];exact(pq.1 hd).imp_of_mem W
section
variable {own:aG} {f:av} {m T N cV:Nat} {gen:aG} {op:bs} {P:Int->Int} {a:Nq}
def a1q(H:fI own f m T N gen op cV P a)(p:Nat)(hp:p<N)(ho:op p=true):∃pre post:aI,Sb N P op p pre post/\pre.length<=4096/\
  (∀(own:aG) (f:av) (m:Nat) (R:Rt),fI own f m T N gen op cV P a->Cl R.Y.Y.Y.Y.Y.Y.Y 310 [.ptr T 0,Q p] f m (λv y L=>B f m y L/\Fs y m L 3 1 v pre.length (pre.map λ(x:Nat)=>Q x)))/\
  (∀(own:aG) (f:av) (m:Nat) (R:Rt),fI own f m T N gen op cV P a->Cl R.Y.Y.Y.Y.Y.Y.Y 230 [.ptr T 0,Q p] f m (λv y L=>B f m y L/\Fs y m L 3 1 v post.length (post.map λ(x:Nat)=>Q x))):=by
 obtain⟨tt,htt⟩:=H.tt;have g:=H.nd hp ho;have hN:(p:Int)<N:=Z;have hf:0<=nf a.li 1 p->Nd N P (nf a.li 1 p)/\P (nf a.li 1 p)=p:=λh=>by obtain⟨s,g2,_⟩:=H.fo.fi g h;trivial
 obtain⟨l,w⟩:=H.fo.wk tt W (tt+1) (nf a.li 1 p) Z W;obtain⟨o,hev⟩:∃o,o=((p:Int),true)::(l++ [((p:Int),false)]):=W;have u:jQ true o=(p:Int)::jQ true l:=by rw[hev,mY];simp[jQ]
 have b:jQ false o=jQ false l++ [(p:Int)]:=by rw[hev,sm];simp[jQ]
 have ai6:=H.fo.nod w W;have apd:=H.fo.pred w W;have Cs:∀M:Int->Prop,(∀k,Nd N P k->M (P k)->M k)->M p->∀z∈jQ true l,Nd N P z/\M z:=λM hM hMp=>H.fo.all hM w W true;have hpn:(p:Int)∉jQ true l:=λhm=>by
  have A:=(apd _ hm).2.2.1;cases w with
  |nil _=>simp[jQ] at hm
  |node h=>have h2:=(H.fo.fi g h).2.2.1;omega
 have d:∀z∈jQ true o,Nd N P z:=W;have pm:(jQ false o).Perm (jQ true o):=by rw[u,b];exact(List.perm_append_comm (l₁:=jQ false l) (l₂:=[(p:Int)])).trans (w.perm.cons _)
 have n2:∀z∈jQ false o,Nd N P z:=W;have nd1:(jQ true o).Nodup:=by rw[u];exact W
 have F:∀z∈jQ true o,0<=z:=λz C=>(d z C).1;have s:∀z∈jQ false o,0<=z:=λz C=>W;have hN1:=H.n1;have Up:∀z∈(jQ true o).map Int.toNat,z<N/\op z=true:=λz C=>by obtain⟨x,S,rfl⟩:=fA.1 C;obtain⟨t,a2,a3⟩:=d x S;have h2:x.toNat<N:=Z;refine⟨h2,(H.lo _ h2).1 ?_⟩;grind
 have hlen:((jQ true o).map Int.toNat).length<=4096:=cL (dg (yP F nd1) W) H.n1;have hel:o.length<=9000:=by rw[TJ,pm.length_eq];rw[dT] at hlen;omega
 have hen:∀e∈o,∃n:Nat,e.1=n/\n<N/\op n=true:=λe he=>by
  have:e.1∈jQ true o:=by
   have h3:e.1∈jQ e.2 o:=by unfold jQ;exact W
   cases h4:e.2 with
   |true=>grind
   |false=>grind
  have h5:=Up e.1.toNat (fA.2 ⟨_,this,rfl⟩);exact⟨e.1.toNat,(uJ (F _ this)).symm,h5⟩
 refine⟨(jQ true o).map Int.toNat,(jQ false o).map Int.toNat,⟨yP F nd1,Up,W,?_,λM hM hMp z C=>?_,?_⟩,hlen,λown f m R H2=>?_,λown f m R H2=>?_⟩
 .grind
 .obtain ⟨x,S,rfl⟩:=fA.1 C;rw[uJ W];rw[u] at S;rcases fY.1 S with rfl|h
  .trivial
  .exact (Cs M hM hMp x h).2
 .rw [cast_toNat s,b];refine(H.fo.gd w W _).app ⟨λj hj i=>.inr ((w.mem j).1 (H.fo.kids g w _ j (xu _) hj i)),trivial⟩
 .intro k c E;refine cUx func310 ?_;simp only[go_sem, ↓ag 312];apply(AK H2 p hp ho true o hev w hel hen).bu;rintro v r m1 ⟨q,hI⟩;obtain⟨ow,so⟩:=hI.sl;simp only[go_sem,so.live];exact E _ _ _ ⟨q,by rw[LC F,dT];trivial⟩
 .intro k c E;refine cUx func230 ?_;simp only[go_sem, ↓ag 312];apply(AK H2 p hp ho false o hev w hel hen).bu;rintro v r m1 ⟨q,hI⟩;obtain⟨ow,so⟩:=hI.sl;simp only[go_sem,so.live];exact E _ _ _ ⟨q,by rw[LC s,dT];trivial⟩
end
def fxI(x:Int):dC->dc
 |[],_=>-1
 |y::t,i=>if x=y then i else fxI x t (i+1)
def a4z(x y:Int)(t:dC)(i:Nat):fxI x (y::t) i=if x=y then(i:Int) else fxI x t (i+1):=rfl
def HL(x:Int):∀(l:dC) (i:Nat),0<=fxI x l i↔x∈l
 |[],i=>by simp[fxI]
 |y::t,i=>by
  unfold fxI;by_cases h:x=y
  .grind
  .rw [aj h,HL x t (i+1)];grind
section
variable {f:av} {m:Nat} {v:V} {xs:dC}
def QM(h:ll f m v xs)(hl:xs.length<=100000)(x:Int)(R:Rt)(L:Nat)(k):R.Y.call 314 [v,Q x] (.fn f L) k=k (Q (fxI x xs 0)) (.fn f L):=by
 have P:=λq=>h.jD Z q;refine cUx func314 ?_;simp only[go_sem,bN h.bC,P];refine kW (n:=xs.length+1) (aF0:=λr e y M=>∃i,i+r=xs.length+1/\1<=r/\y=f/\M=L/\(eg 0).get e=v/\(eg 1).get e=Q x/\(eg 7).get e=Q xs.length/\(eg 8).get e=Q i/\fxI x xs 0=fxI x (xs.drop i) i)
  (E:=λz e y M=>y=f/\M=L/\((z= .ret/\(eg 4).get e=Q (fxI x xs 0))\/(z= .exit 0/\fxI x xs 0= -1))) ?_ J2 ?_ ?_
 .exact ⟨0,Z,Z,rfl,rfl,E6,E6,E6,E6,rfl⟩
 .rintro r e y M ⟨i,hr,Hy,rfl,rfl,c,u,d,l,A⟩ rr j lR hE;unfold iB;by_cases F:i<xs.length
  .have c1:(i:Int)<xs.length:=by omega
   obtain⟨b,o,cp,a,t,w,z,g,rfl,s,H,ho,p⟩:=h.at F;have N:IntKind.i64.wrap ((i:Int)+1)=((i+1:Nat):Int):=Qf;rw[Og F,a4z] at A;by_cases S:x=xs[i]
   .rw [ao S] at A;simp only[go_sem,c,u,d,l,c1,H,ho,p,F,eq_true S];exact hE _ _ _ _ ⟨rfl,rfl,.inl ⟨rfl,Zl⟩⟩
   .rw [aj S] at A;simp only[go_sem,c,u,d,l,c1,H,ho,p,F,eq_false S,N];exact lR (r-1) _ _ _ Z ⟨i+1,Z,Z,rfl,rfl,E6,E6,E6,E6,A⟩
  .have c1:¬(i:Int)<xs.length:=by omega
   simp only[go_sem,d,l,c1];refine hE _ _ _ _ ⟨rfl,rfl,.inr ⟨rfl,?_⟩⟩;rw[A,FQ Z];rfl
 .rintro z e y M ⟨rfl,rfl,⟨rfl,C⟩|⟨rfl,C⟩⟩
  .exact zC
  .rw [C];exact zC
def ug(h:ll f m v xs)(hl:xs.length<=100000)(x:Int)(R:Rt)(L:Nat)(k):R.Y.Y.call 232 [v,Q x] (.fn f L) k=k (.bool (decide (x∈xs))) (.fn f L):=by
 have F:=QM h hl x;by_cases S:x∈xs
 .have c1:=(HL x xs 0).2 S;rw[dI S];refine cUx func232 ?_;simp only[go_sem,bN h.bC,F,c1]
 .have c1:¬0<=fxI x xs 0:=λh=>S ((HL x xs 0).1 h);rw[dB S];refine cUx func232 ?_;simp only[go_sem,bN h.bC,F,c1]
end
variable{i:Nat}
def DZ(a l:Int):∃b:Bool,∀(R:Rt) (f:av) (m:Nat) (k:cR),R.Y.Y.call 306 [.agg [Q a,Q l]] (.fn f m) k=k (.bool b) (.fn (bw f m (.row 222 2 0 true [.num 0,.num 0] (.cf (bI [Q a,Q l])))) (pl m 1)):=by
 obtain⟨x,c,d⟩:=KF a l;by_cases A:0<=a
 .by_cases N:1<=l
  .refine ⟨c,λR f m k=>?_⟩;cases c
   .refine cUx func306 ?_;exact zC
   .refine cUx func306 ?_;exact zC
  .refine ⟨false,λR f m k=>?_⟩;refine cUx func306 ?_;exact zC
 .refine ⟨false,λR f m k=>?_⟩;refine cUx func306 ?_;exact zC
def spW(a l:Int):Bool:=Classical.choose (DZ a l)
def sc(a l:Int)(R:Rt)(f)(m:Nat)(k):R.Y.Y.call 306 [.agg [Q a,Q l]] (.fn f m) k=k (.bool (spW a l)) (.fn (bw f m (.row 222 2 0 true [.num 0,.num 0] (.cf (bI [Q a,Q l])))) (pl m 1)):=NX (DZ a l) R f m k
def ub(sp:List (Int×Int)):ay:=sp.flatMap λp=>[Q p.1,Q p.2]
def a79(sp:List (Int×Int)):(ub sp).length=sp.length*2:=by
 unfold ub
 induction sp with
 |nil=>rfl
 |cons p sp H=>grind
def a1T(sp:List (Int×Int)):∀(i:Nat) (h:i<sp.length),bI (ub sp) (i*2)=Q sp[i].1/\bI (ub sp) (i*2+1)=Q sp[i].2:=by
 induction sp with
 |nil=>grind
 |cons p sp H=>
  intro i h;have e:ub (p::sp)=Q p.1::Q p.2::ub sp:=rfl;rw[e];cases i with
  |zero=>trivial
  |succ i=>have N:i<sp.length:=R8;have:=H i N;rw[show (i+1)*2=i*2+1+1 by omega];exact this
section
variable {f:av} {m:Nat} {v:V} {sp:List (Int×Int)}
def yF(h:i7 f m 222 2 v sp.length (ub sp))(F:i<sp.length):∃b o cp mm fz w zs g,v= .sl b o sp.length cp/\b<m/\f b= .row 222 mm fz w zs (.cf g)/\o+i*2+2<=mm/\g (o+i*2)=Q sp[i].1/\g (o+i*2+1)=Q sp[i].2:=by obtain⟨b,o,cp,mm,fz,w,zs,g,A,N,M,u,r⟩:=h.at F;have S:=a1T sp i F;exact⟨b,o,cp,mm,fz,w,zs,g,A,N,M,u,(r 0 I).trans W,W⟩
def AY{R:Rt}(h:i7 f m 222 2 v sp.length (ub sp))(hl:sp.length<=100000):
  Cl R.Y.Y.Y 305 [v] f m (λu y L=>(∃b,u= .bool b)/\B f m y L):=by
 intro k c hk;have P:=λq=>h.jD Z q;refine cUx func305 ?_;simp only[go_sem,P,bN h.bC];refine kW (n:=sp.length+1) (aF0:=λr e y M=>∃(i:Nat) (x:Int),i+r=sp.length+1/\1<=r/\(eg 6).get e=v/\(eg 7).get e=Q sp.length/\(eg 8).get e=Q i/\(eg 3).get e=Q x/\B f m y M)
  (E:=λz e y M=>B f m y M/\((z= .ret/\(eg 2).get e= .bool false)\/z= .exit 0)) ?_ J2 ?_ ?_
 .exact ⟨0,0,Z,Z,E6,E6,E6,E6,B.refl _ _⟩
 .rintro r e y M ⟨i,x,hr,Hy,e6,d,l,A,p⟩ rr j lR hE;unfold iB;by_cases F:i<sp.length
  .have c1:(i:Int)<sp.length:=by omega
   obtain⟨b,o,S,mm,t,w,zs,g,rfl,hb,H,nz,s,h1⟩:=yF (h.gr p) F;have N:IntKind.i64.wrap ((i:Int)+1)=((i+1:Nat):Int):=Qf;have hw:=sc sp[i].1 sp[i].2;generalize hwb:spW sp[i].1 sp[i].2=a at hw;have la:∀q,laid 0 [Q sp[i].1,Q sp[i].2] q 0=Q sp[i].1:=λq=>rfl;have lb:∀q,laid 0 [Q sp[i].1,Q sp[i].2] q 1=Q sp[i].2:=λq=>rfl;cases a with
   |false=>refine zS ?_;exact hE _ _ _ _ ⟨(B.w (m2:=M) Qk E9),.inl ⟨rfl,E6⟩⟩
   |true=>
    by_cases hx:sp[i].1<x
    .refine zS ?_;exact hE _ _ _ _ ⟨(B.w (m2:=M) Qk E9),.inl ⟨rfl,E6⟩⟩
    .refine zS ?_;exact lR (r-1) _ _ _ Z ⟨i+1,_,Z,Z,E6,E6,E6,T9,(B.w (m2:=M) Qk E9)⟩
  .have c1:¬(i:Int)<sp.length:=by omega
   simp only[go_sem,d,l,c1];grind
 .rintro z e y M ⟨p,⟨rfl,e2⟩|rfl⟩
  .refine zS ?_;grind
  .refine zS ?_;grind
def Gh{R:Rt}(a l b n:Int)(f)(m:Nat):
  Cl R.Y.Y.Y 308 [.agg [Q a,Q l],.agg [Q b,Q n]] f m (λu y L=>(∃b,u= .bool b)/\B f m y L):=by
 intro k g E;have A:=sc a l;have N:=sc b n;generalize spW a l=d at A;generalize spW b n=e at N;cases d
 .refine cUx func308 ?_;refine zS ?_;exact E _ _ _ ⟨W,(B.w (m2:=m) Qd E1)⟩
 cases e
 .refine cUx func308 ?_;refine zS ?_;exact E _ _ _ ⟨W,(B.w (m2:=m) Qd E1)⟩
 by_cases c:a<IntKind.i64.wrap (b+n)
 .refine cUx func308 ?_;refine zS ?_;exact E _ _ _ ⟨W,(B.w (m2:=m) Qd E1)⟩
 .refine cUx func308 ?_;refine zS ?_;exact E _ _ _ ⟨W,(B.w (m2:=m) Qd E1)⟩
end
def Ea(a l x:Int)(R:Rt)(f)(m:Nat)(k):R.Y.call 370 [.agg [Q a,Q l],Q x] (.fn f m) k=k (Q (if a<x then -1 else if x<a then 1 else 0)) (.fn (bw f m (.row 222 2 0 true [.num 0,.num 0] (.cf (bI [Q a,Q l])))) (pl m 1)):=by
 by_cases c1:a<x
 .rw [ao c1];refine cUx func370 ?_;exact zC
 .by_cases c2:x<a
  .rw [aj c1,ao c2];refine cUx func370 ?_;exact zC
  .rw [aj c1,aj c2];refine cUx func370 ?_;exact zC
def a1X(w:Nat)(q:aY):IF (nb .shr) (.ik .u64 w) (.ik .u64 1) q=q (.ik .u64 ((w/2:Nat):Int)):=by show mv .u64 ((w:Int).fdiv (2^(min 1 64))) q=_;rw[mh,show(2:Int)^(min 1 64)=2 by decide,Ol _ I];rfl
section
variable {f:av} {m:Nat} {v:V} {sp:List (Int×Int)}
def Wu{R:Rt}(h:i7 f m 222 2 v sp.length (ub sp))(hl:sp.length<=100000)(x:Int):
  Cl R.Y.Y 369 [v,Q x,.fn 370 [] []] f m (λu y L=>(∃(i:Nat) (b:Bool),u= .cI [Q i,.bool b]/\i<=sp.length)/\B f m y L):=by
 intro k aEY hk;have P:=λq=>h.jD Z q;refine cUx func369 ?_;simp only[go_sem,P,bN h.bC];refine cU (x:=.exit 0) (n:=sp.length+1) (aF0:=λr e y M=>∃(i j:Nat),i<=j/\j<=sp.length/\j-i<r/\(eg 0).get e=v/\(eg 1).get e=Q x/\(eg 2).get e= .fn 370 [] []/\(eg 8).get e=Q sp.length/\(eg 9).get e=Q i/\(eg 10).get e=Q j/\B f m y M)
  (E:=λe y M=>∃(i:Nat),i<=sp.length/\(eg 0).get e=v/\(eg 1).get e=Q x/\(eg 2).get e= .fn 370 [] []/\(eg 8).get e=Q sp.length/\(eg 9).get e=Q i/\B f m y M) ?_ J2 ?_ ?_
 .exact ⟨0,sp.length,Z,Z,Z,E6,E6,E6,E6,E6,E6,B.refl _ _⟩
 .rintro r e y M ⟨i,j,hij,hj,d,c,e1,e2,l,N,e10,p⟩ rr kx C hE;unfold iB;by_cases A:i<j
  .have c1:(i:Int)<j:=by omega
   have hm:(i+j)/2<sp.length:=Z;obtain⟨b,o,S,a,t,w,z,g,rfl,hb,H,nz,s,h1⟩:=yF (h.gr p) hm;have w1:IntKind.i64.wrap ((i:Int)+j)=((i+j:Nat):Int):=Qf;have w2:IntKind.u64.wrap ((i+j:Nat):Int)=((i+j:Nat):Int):=wrap_u64 Z;have w3:IntKind.i64.wrap (((i+j)/2:Nat):Int)=(((i+j)/2:Nat):Int):=cB Z;have w4:IntKind.i64.wrap ((((i+j)/2:Nat):Int)+1)=(((i+j)/2+1:Nat):Int):=Qf;have hs:=a1X (i+j);have q1:i<=(i+j)/2:=Z;have q2:(i+j)/2<j:=Z;have hp:=Ea sp[(i+j)/2].1 sp[(i+j)/2].2 x;generalize (i+j)/2=q at *;by_cases c2:(if sp[q].1<x then(-1:Int) else if x<sp[q].1 then 1 else 0)<0
   .refine zS ?_;exact C (r-1) _ _ _ Z ⟨q+1,j,Z,hj,Z,E6,E6,E6,E6,E6,E6,(B.w (m2:=M) Qk E9)⟩
   .refine zS ?_;exact C (r-1) _ _ _ Z ⟨i,q,Z,Z,Z,E6,E6,E6,E6,E6,E6,(B.w (m2:=M) Qk E9)⟩
  .have c1:¬(i:Int)<j:=by omega
   refine zS ?_;exact hE _ _ _ ⟨i,Z,E6,E6,E6,E6,E6,p⟩
 .rintro e y M ⟨i,F,c,e1,e2,l,N,p⟩;by_cases A:i<sp.length
  .have c1:(i:Int)<sp.length:=by omega
   obtain⟨b,o,S,a,t,w,z,g,rfl,hb,H,nz,s,h1⟩:=yF (h.gr p) A;have hp:=Ea sp[i].1 sp[i].2 x;refine zS ?_;exact hk _ _ _ ⟨W,(B.w (m2:=M) Qk E9)⟩
  .have c1:¬(i:Int)<sp.length:=by omega
   refine zS ?_;grind
def JL{R:Rt}(h:i7 f m 222 2 v sp.length (ub sp))(hl:sp.length<=100000)(x:Int):
  Cl R.Y.Y.Y 307 [v,Q x] f m (λu y L=>(∃(i:Nat) (b:Bool),u= .cI [Q i,.bool b]/\i<=sp.length)/\B f m y L):=by
 intro k c E;refine cUx func307 ?_;simp only[go_sem,bN h.bC, ↓ag 369];apply(Wu h hl x).bu;rintro u r l ⟨⟨i,b,rfl,F⟩,q⟩;refine zS ?_;grind
end
def ahm(x:Operand):fy:=⟨λ_ e h k=>V.ec ((ax x).get e) (λ_ _=>fH (.map [] 0) h (λi h=>k (.map i) h))⟩
@[go_sem ↓]def aop(x:Operand)(R e h k):(ahm x).run R e h k=V.ec ((ax x).get e) (λ_ _=>fH (.map [] 0) h (λi h=>k (.map i) h)):=G
@[go_sem ↓]def att(x:Operand):qm K (.makeMap 381 (some x))=ahm x:=G
section
variable {f:av} {m:Nat} {v:V} {xs:dC} {cu:Int}
def TL(x:Int)(R:Rt)(f)(m:Nat)(k):R.Y.call 304 [Q x] (.fn f m) k=k (.bool (decide (0<=x/\x<=1048575))) (.fn f m):=by
 by_cases A:0<=x
 .by_cases N:x<=1048575
  .rw [dI G];refine cUx func304 ?_;exact zC
  .rw [dB Z];refine cUx func304 ?_;exact zC
 .rw [dB Z];refine cUx func304 ?_;exact zC
def BV(l:List (Int×V×Nat)):Prop:=∀x v,cC l x=some v->v= .bool true
def BV.get{l:List (Int×V×Nat)}(h:BV l)(x:Int):∃b:Bool,(cC l x).getD (.bool false)= .bool b:=by
 cases S:cC l x with
 |none=>exact⟨false,rfl⟩
 |some v=>exact⟨true,h x v S⟩
def BV.set{l:List (Int×V×Nat)}(h:BV l)(x:Int)(c:Nat):BV (eJ l x (.bool true) c):=λy v H=>by
 rw[dR] at H;split at H
 .grind
 .exact h y v H
def uR{R:Rt}(h:ll f m v xs)(hl:xs.length<=100000):
  Cl R.Y.Y 300 [.agg [v,Q cu]] f m (λu y m'=>(∃b,u= .bool b)/\B f m y m'):=by
 intro k c hk;have P:=λq=>h.jD Z q;have hu:=h.bC;have yi:∀q,V.live v q=q v:=bN hu;by_cases c1:cu<0
 .refine cUx func300 ?_;simp only[go_sem,c1,P,yi];exact hk _ _ _ ⟨W,(B.w (m2:=m) Qc E1)⟩
 .have xj:∀q d,V.bt v q d=q v:=λq d=>by rcases h with⟨rfl,_⟩|⟨_,_,_,_,_,_,_,_,rfl,_⟩<;>rfl
  by_cases c2:xs.length=0/\¬cu=0
  .have c3:((xs.length:Nat):Int)=0:=by omega
   refine cUx func300 ?_;simp only[go_sem,c1,P,yi,xj,c3,eq_false c2.2];exact hk _ _ _ ⟨⟨_,rfl⟩,(B.w (m2:=m) Qe E1)⟩
  .by_cases c3:((xs.length:Nat):Int)=0
   case' pos=>have c4:cu=0:=Z;refine cUx func300 ?_;simp only[go_sem,c1,P,yi,xj,c3,eq_true c4]
   case' neg=>refine cUx func300 ?_;simp only[go_sem,c1,P,yi,xj,c3]
   all_goals
    refine kW (n:=xs.length+1) (aF0:=λr e y M=>∃(i:Nat) (l:List (Int×V×Nat)) (ck:Nat),i+r=xs.length+1/\1<=r/\M=pl m 2/\(eg 3).get e= .map (pl m 1)/\(eg 25).get e=v/\(eg 26).get e=Q xs.length/\(eg 27).get e=Q i/\y (pl m 1)= .map (enc l) ck/\BV l/\B f m y M)
     (E:=λz e y M=>B f m y M/\((z= .ret/\(eg 2).get e= .bool false)\/z= .exit 0)) ?_ J2 ?_ ?_
    .exact ⟨0,[],0,Z,Z,rfl,U7,U7,by first|(simp only[go_sem];done)|(rw [c3];simp only[go_sem]),U7,by simp only[go_sem];rfl,λx v h=>Q8,(B.w (m2:=m) Qd E1)⟩
    .rintro r e y M ⟨i,l,ck,hr,Hy,rfl,A,e25,a,e27,hm,s,p⟩ rr j lR hE;unfold iB;by_cases F:i<xs.length
     .have c1:(i:Int)<xs.length:=by omega
      obtain⟨b,o,S,mm,t,w,z,g,rfl,Uz,H,L,Uw⟩:=(h.gr p).at F;have N:IntKind.i64.wrap ((i:Int)+1)=((i+1:Nat):Int):=Qf;have QP:=TL xs[i];by_cases hp:0<=xs[i]/\xs[i]<=1048575
      .rw [dI hp] at QP;obtain⟨bb,hbb⟩:=s.get xs[i];cases bb with
       |true=>simp only[go_sem,A,e25,a,e27,c1,H,L,Uw,F,QP,hm,hbb];exact hE _ _ _ _ ⟨p,.inl ⟨rfl,U7⟩⟩
       |false=>simp only[go_sem,A,e25,a,e27,c1,H,L,Uw,F,QP,hm,hbb,N];exact lR (r-1) _ _ _ Z ⟨i+1,_,_,Z,Z,rfl,by simp only[go_sem,A],by simp only[go_sem,e25],by simp only[go_sem,a],U7,by simp only[go_sem];rfl,s.set _ _,p.bw W⟩
      .rw [dB hp] at QP;simp only[go_sem,A,e25,a,e27,c1,H,L,Uw,F,QP];exact hE _ _ _ _ ⟨p,.inl ⟨rfl,U7⟩⟩
     .have c1:¬(i:Int)<xs.length:=by omega
      simp only[go_sem,a,e27,c1];grind
    .rintro z e y M ⟨p,⟨rfl,e2⟩|rfl⟩
     .simp only[go_sem,e2];grind
     .simp only[go_sem];grind
end
variable{M:Nat}{F:av}{k:cR}
def ll.uf{v:V}{xs:dC}(h:ll f m v xs):i7 f m 3 1 v xs.length (xs.map λ(x:Int)=>Q x):=by
 rcases h with⟨rfl,rfl⟩|⟨i,o,c,a,t,w,z,g,A,N,M,b,r⟩
 .exact .inl ⟨rfl,rfl,rfl⟩
 .refine .inr ⟨i,o,c,a,t,w,z,g,A,N,M,J1,Z,λj d=>?_,λu L=>?_⟩
  .rw [r j Z,k9 _ _ Z]
  .obtain ⟨x,_,rfl⟩:=fA.1 L;exact iW x
def bS.Dl{n:Nat}{v:V}{xs:dC}(h:bS own c f m 3 1 v n (xs.map λ(x:Int)=>Q x)):ll f m v xs:=h.toZ
def Ii{z:Nat}{x y:V}{T:Bool}(h:∀i,i=F->cpw z x y (.fn i M) k=T):cpw z x y (.fn F M) k=T:=W
section
variable {f:av} {m:Nat} {v:V} {xs:dC} {cu:Int}
def WQ{R:Rt}(h:ll f m v xs)(hl:xs.length<=100000):
  Cl R.Y.Y.Y 302 [.agg [v,Q cu]] f m (λu y L=>(∃x:Int,u=Q x/\(x<0\/x∈xs))/\B f m y L):=by
 intro k c E;have tI:=λq=>h.jD Z q;have e:∀q,V.live v q=q v:=bN h.bC;have s:∀q d,V.bt v q d=q v:=λq d=>O0;refine cUx func302 ?_;simp only[go_sem,s, ↓ag 300];refine aP ?_;intro F j;have M:B f m F (pl m 1):=Vv;have i:F m=(.row 412 2 0 true [.au,.num 0] (.cf (bI [v,Q cu]))):=J3;apply(uR (h.gr M) hl).bu;rintro u r l ⟨⟨b,rfl⟩,P⟩;have p:r m=(.row 412 2 0 true [.au,.num 0] (.cf (bI [v,Q cu]))):=(P.ah m W).trans i;cases b with
 |false=>refine zS ?_;exact E _ _ _ ⟨W,M.trans P⟩
 |true=>
  by_cases c3:((xs.length:Nat):Int)=0
  .refine zS ?_;exact E _ _ _ ⟨W,M.trans P⟩
  .have A:xs.length-1<xs.length:=by omega
   obtain⟨b,o,S,a,t,w,z,g,rfl,Uz,H,ho,n⟩:=(h.gr (M.trans P)).at A;have N:IntKind.i64.wrap ((xs.length:Int)-1)=((xs.length-1:Nat):Int):=Ql;refine zS ?_;exact E _ _ _ ⟨W,M.trans P⟩
def Kt{R:Rt}(h:ll f m v xs)(hl:xs.length<=100000):
  Cl R.Y 303 [.agg [v,Q cu]] f m (λu y L=>(∃N,u= .agg [N,Q cu]/\Fs y m L 3 1 N xs.length (xs.map λ(x:Int)=>Q x))/\B f m y L):=by
 intro k c E;have P:=λq=>h.jD Z q;have e:∀q,V.live v q=q v:=bN h.bC;have A:∀q d,V.bt v q d=q v:=λq d=>O0;have d0:(0:Int)<=(xs.length:Nat):=Z;have d1:xs.length<=4294967296:=Z;have d2:8*xs.length<=281474976710656:=Z;have d5:xs.length<=9223372036854775807:=Z;refine cUx func303 ?_;refine zS ?_;refine Ii ?_;intro F a;have M:B f m F (pl m 3):=Wl;have b:F (pl m 2)=(.row 3 (xs.length) 0 true [.num 0] (.cf (zf [.num 0]))):=Zj;refine Ij b ((h.gr M).uf) Z Z ?_;intro u;have g:F m=(.row 412 2 0 true [.au,.num 0] (.cf (bI [v,Q cu]))):=G9;have t:F (pl m 1)=(.row 412 2 0 true [.au,.num 0] (.cf (zf [.au,.num 0]))):=G9;simp only[go_sem,g,t];refine E _ _ _ ⟨⟨_,rfl,.inr ⟨pl m 2,0,.known xs.length,xs.length,true,_,_,rfl,W,W,T9,J1,Z,λj z=>?_,λj z=>?_,⟨bP _,Z⟩⟩⟩,(M.bw W).bw W⟩
 .rw [dz,du (kU _) W,j7]
 .rw [du Z W];exact pz (λu i=>by obtain⟨x,_,rfl⟩:=fA.1 i;exact iW x) W
end
section
variable {f:av} {m:Nat} {v:V} {xs:dC} {cu:Int}
def a2L{R:Rt}(h:ll f m v xs)(hl:xs.length<=100000)(sz al ch:Int)(ha:al<=9223372036854775807):
  Cl R.Y.Y.Y.Y.Y.Y 223 [.agg [v,Q cu],Q sz,Q al,Q ch] f m (λu y L=>(∃(w:ay) (i a e:Int),u= .cI [.agg w,Q i,Q a,Q e]/\w.length=2/\(e=0->∃N c',w= [N,Q c']/\i∈xs/\Fs y m L 3 1 N xs.length (xs.map λ(x:Int)=>Q x)))/\B f m y L):=by
 intro k c E;have yi:∀q,V.live v q=q v:=bN h.bC;have A:∀q d,V.bt v q d=q v:=λq d=>O0;obtain⟨bx,bn,be,hB⟩:=Si cu sz al ch ha;refine cUx func223 ?_;simp only[go_sem,A, ↓ag 300];refine aP ?_;intro F j;have qF:B f m F (pl m 2):=Vu;have a0:F m=(.row 412 2 0 true [.au,.num 0] (.cf (bI [v,Q cu]))):=Q0;have t:F (pl m 1)=(.row 412 2 0 true [.au,.num 0] (.cf (zf [.au,.num 0]))):=Q0;apply(uR (h.gr qF) hl).bu;rintro u r l ⟨⟨b,rfl⟩,P⟩;have b0:=(P.ah m W).trans a0;have b1:=(P.ah (pl m 1) W).trans t;have e01:m≠pl m 1:=W;have n:=qF.trans P;cases b with
 |false=>refine zS ?_;exact E _ _ _ ⟨W,n.bw W⟩
 |true=>
  simp only[go_sem,b0,A,hB, ↓ag 302];apply(WQ (h.gr n) hl).bu;rintro u f2 C ⟨⟨x,rfl,S⟩,q2⟩;have c0:=(q2.ah m (by have:=n.le;have:=P.le;unfold pl at *;omega)).trans b0;have c1:=(q2.ah (pl m 1) (by have:=P.le;trivial)).trans b1;have II:=n.trans q2;by_cases he:be=0
  .by_cases hx0:x<0
   .refine zS ?_;exact E _ _ _ ⟨W,II.bw W⟩
   .have S:=S.resolve_left hx0;simp only[go_sem,eq_true he,hx0,c0,A, ↓ag 303];apply(Kt (h.gr II) hl).bu;rintro u f3 s ⟨⟨N,rfl,M⟩,p⟩;have l1:=P.le;have l2:=q2.le;have l3:=p.le;have d1:=(p.ah (pl m 1) W).trans c1;have e1:pl m 1≠s:=W;obtain⟨ow,so⟩:=M.sl;simp only[go_sem,so.bt,d1,e1];refine fG ?_;intro H hG;have q4:B f3 s H (pl s 1)->True:=λ_=>trivial;have kk:∀x,x<s->x≠pl m 1->H x=f3 x:=λx S hn=>by
     have n1:x≠s:=Z;rw[hG];exact zC
    have Dx:=II.trans p;have qG:B f m H (pl s 1):=⟨by have:=Dx.le;unfold pl;omega,λx S=>by rw[kk x (by have:=Dx.le;omega) W];exact Dx.ah x S⟩;refine E _ _ _ ⟨⟨_,x,bx,0,rfl,rfl,λ_=>⟨N,_,rfl,S,?_⟩⟩,qG⟩;rcases M with M|⟨i,o,cp,mm,w,zs,gg,g1,z,g3,g4,g⟩
    .grind
    .exact .inr ⟨i,o,cp,mm,w,zs,gg,g1,by have:=II.le;omega,W,W,g⟩
  .refine zS ?_;exact E _ _ _ ⟨W,II.bw W⟩
def a2M{R:Rt}(h:ll f m v xs)(hl:xs.length<=100000)(x:Int):
  Cl R.Y.Y.Y 226 [.agg [v,Q cu],Q x] f m (λu y L=>(∃(w:ay) (e:Int),u= .cI [.agg w,Q e]/\w.length=2/\(e=0->∃N,w= [N,Q 0]/\Fs y m L 3 1 N (xs.length+1) ((xs++ [x]).map λ(x:Int)=>Q x)))/\B f m y L):=by
 intro k c E;have yi:∀q,V.live v q=q v:=bN h.bC;have A:∀q d,V.bt v q d=q v:=λq d=>O0;refine cUx func226 ?_;simp only[go_sem,A, ↓ag 300];refine aP ?_;intro F j;have qF:B f m F (pl m 2):=Vu;have a0:F m=(.row 412 2 0 true [.au,.num 0] (.cf (bI [v,Q cu]))):=Q0;have t:F (pl m 1)=(.row 412 2 0 true [.au,.num 0] (.cf (zf [.au,.num 0]))):=Q0;apply(uR (h.gr qF) hl).bu;rintro u r l ⟨⟨b,rfl⟩,P⟩;have b0:=(P.ah m W).trans a0;have H:=(P.ah (pl m 1) W).trans t;have e01:m≠pl m 1:=W;have n:=qF.trans P;have a:=TL x;cases b with
 |false=>refine zS ?_;exact E _ _ _ ⟨W,n.bw W⟩
 |true=>
  by_cases hp:0<=x/\x<=1048575
  .rw [dI hp] at a;have hc:=ug (h.gr n) hl x;by_cases S:x∈xs
   .rw [dI S] at hc;refine zS ?_;exact E _ _ _ ⟨W,n.bw W⟩
   .rw [dB S] at hc;simp only[go_sem,b0,yi,A,a,hc, ↓ag 303];apply(Kt (h.gr n) hl).bu;rintro u f3 s ⟨⟨N,rfl,M⟩,p⟩;have Dx:=n.trans p;have l1:=P.le;have l3:=p.le;have d1:=(p.ah (pl m 1) G).trans H;have e1:pl m 1≠s:=W;obtain⟨ow,so⟩:=M.sl;simp only[go_sem,so.bt];refine gE ?_;intro F4 Dq;have q4:B f3 s F4 (pl s 2):=by rw[Dq];exact(B.w (m2:=s) Qd E1)
    obtain⟨cS,r4,s4⟩:=(M.gr q4).to (p.trans q4) (λ_=>0) 7;have z4:∀x,x<l->cS x=0:=λx S=>r4.same x S;refine dv s4 (n':=1) rfl (qS _) Z Z ?_;intro v5 fQ f5 m5 s5 q5;have l34:=(p.trans q4).le;have l5:=q5.le;have g:B r l f5 m5:=⟨Z,λx S=>by rw[q5.ah x Z W];exact(p.trans q4).ah x S⟩;have z5:∀x,x<l->fQ x≠7:=λx S=>by rw[q5.same x Z,z4 x S];decide
    have k1:=(g.ah (pl m 1) G).trans H;simp only[go_sem,k1,s5.bt,s5.one];refine fG ?_;intro aEZ hG;have q6:B f m aEZ m5:=by rw[hG];exact(n.trans g).bw W
    refine E _ _ _ ⟨⟨_,0,rfl,rfl,λ_=>⟨v5,rfl,?_⟩⟩,q6⟩;rw[iH];rcases s5.fs z5 with M|⟨i,o,cp,mm,w,zs,gg,g1,z,g3,g4,g⟩
    .omega
    .exact .inr ⟨i,o,cp,mm,w,zs,gg,g1,by have:=n.le;omega,g3,by rw[hG,aE W];trivial,g⟩
  .rw [dB hp] at a;refine zS ?_;exact E _ _ _ ⟨W,n.bw W⟩
end
def a9R{z:Nat}{x:V}{k:Nat->ay->Bool}{T:Bool}(h:∀i,i=F->fZ z x (.fn i M) k=T):fZ z x (.fn F M) k=T:=W
def pgC(ps:List (V×Int×dC)):ay:=ps.flatMap λp=>[p.1,Q p.2.1]
def pgX(ps:List (V×Int×dC)):dC:=ps.flatMap λp=>p.2.2
def abJ(ps:List (V×Int×dC)):∀(i:Nat) (h:i<ps.length),bI (pgC ps) (i*2)=ps[i].1/\bI (pgC ps) (i*2+1)=Q ps[i].2.1:=by
 induction ps with
 |nil=>grind
 |cons p ps H=>
  intro i h;have e:pgC (p::ps)=p.1::Q p.2.1::pgC ps:=rfl;rw[e];cases i with
  |zero=>trivial
  |succ i=>have N:i<ps.length:=R8;have:=H i N;rw[show (i+1)*2=i*2+1+1 by omega];exact this
def Kr(ps:List (V×Int×dC))(i:Nat)(h:i<ps.length):pgX (ps.take (i+1))=pgX (ps.take i)++ps[i].2.2:=by unfold pgX;rw[jr h,mK];simp
section
variable {f:av} {m:Nat} {v:V}
def WR{R:Rt}(ps:List (V×Int×dC))(h:i7 f m 412 2 v ps.length (pgC ps))(hp:∀p∈ps,ll f m p.1 p.2.2)(hl:ps.length<=100000)(S:∀i,(pgX (ps.take i)).length<=100000):
  Cl R.Y 311 [v] f m (λu y L=>Fs y m L 3 1 u (pgX ps).length ((pgX ps).map λ(x:Int)=>Q x)/\B f m y L):=by
 intro k aEY hk;have tI:=λq=>h.jD Z q;have hu:v≠ .undef:=Va;refine cUx func311 ?_;simp only[go_sem,tI,bN hu];refine cU (x:=.exit 0) (n:=ps.length) (aF0:=λr e y L=>∃(i:Nat) (t:aG) (N:V),i+r=ps.length/\(eg 6).get e=v/\(eg 7).get e=Q ps.length/\(eg 8).get e=Q i/\(eg 3).get e=N/\Fr (· =7) (λ_=>0) f m t y L/\bS t 7 y L 3 1 N (pgX (ps.take i)).length ((pgX (ps.take i)).map λ(x:Int)=>Q x))
  (E:=λe y L=>∃(t:aG) (N:V),(eg 3).get e=N/\Fr (· =7) (λ_=>0) f m t y L/\bS t 7 y L 3 1 N (pgX ps).length ((pgX ps).map λ(x:Int)=>Q x)) ?_ J2 ?_ ?_
 .exact ⟨0,λ_=>0,.au,Z,E6,E6,E6,E6,Fr.refl _ _ _ _,bS.nil⟩
 .rintro r e f1 l ⟨i,bX,v1,hr,z,e7,e8,A,s,M⟩ rr kx C hE;unfold iB;by_cases F:i<ps.length
  .have c1:(i:Int)<ps.length:=by omega
   have P:B f m f1 l:=s.xD Z;have hpa:=abJ ps i F;have hI:=hp _ (eL F);have ew:IntKind.i64.wrap ((i:Int)+1)=((i+1:Nat):Int):=Qf;have yi:∀q,V.live ps[i].1 q=q ps[i].1:=bN hI.bC;have xj:∀q d,V.bt ps[i].1 q d=q ps[i].1:=λq d=>by generalize ps[i].1=w at hI;rcases hI with⟨rfl,_⟩|⟨_,_,_,_,_,_,_,_,rfl,_⟩<;>rfl
   rcases h.gr P with⟨_,h0,_⟩|⟨b,o,cp,mm,fz,w,zs,g,rfl,hb,hf,zy,nz,hg,xl⟩
   .omega
   have LN:=hg (i*2) Z;have ve:=hg (i*2+1) Z;rw[hpa.1] at LN;rw[hpa.2,←FE] at ve;have H:o+i*2+2<=mm:=Z;simp only[go_sem,z,e7,e8,A,c1,F,hf,LN,ve,H,xj,M.live];refine a9R ?_;intro F0 a;have q2:B f1 l F0 (pl l 1):=by rw[a];exact(B.w (m2:=l) Qc E1)
   rw[(hI.gr (P.trans q2)).uf.src,←a];have j:=S (i+1);rw[Kr _ _ F,eZ] at j;refine dv (M.ah (q2.fr bX (λ_=>False)) id) J1 (λu hu=>by obtain⟨x,_,rfl⟩:=fA.1 hu;exact iW x) Z Z ?_;intro v2 dm f2 m2 aoX q3;simp only[go_sem,aoX.live,ew];refine C (r-1) _ _ _ Z ⟨i+1,dm,v2,Z,E6,E6,E6,E6,(s.trans (q2.fr bX (· =7)) (λ_ h=>h) (λ_ h=>h)).trans q3 (λ_ h=>h) Z,?_⟩;rw[Kr _ _ F,iH,eZ];trivial
  .have c1:¬(i:Int)<ps.length:=by omega
   refine zS ?_;have c:i=ps.length:=Z;rw[c,mJ] at M;exact hE _ _ _ ⟨bX,v1,A,s,M⟩
 .rintro e f1 l ⟨bX,v1,A,s,M⟩;simp only[go_sem,A,M.live];have z1:∀x,x<m->bX x≠7:=λx S=>by rw[s.same x S];decide
  exact hk _ _ _ ⟨M.fs z1,s.xD Z⟩
end
end
end Go.Ev.Sy
