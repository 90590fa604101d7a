import Derived.Test.YthpffinbkpnniaaGreatDoorM11
set_option linter.all false
set_option maxRecDepth 100000
namespace Go.Ev.Sy
open Go Go.Ev Go.Proofs
open Tryz
noncomputable section
section
variable {own:aG} {f:av} {m A cV:Nat} {gen:aG} {op:bs} {acc:Nat->Acc} {a:xg}
def SJ{R:Rt}(H:jC own f m A gen op cV acc a)(p:Nat)(g:op p=true)(hg:gen p<=1099511627776):
  Cl R.Y.Y.Y 285 [.ptr A 0,Q p,Q (gen p)] f m (λv y L=>if 0<(acc p).h+(acc p).r then v=Q 11/\B f m y L else v=Q 0/\0<cV/\∃t,(∃a',jC t y L A (vV gen p (gen p+1)) (fB op p false) (cV-1) acc a')/\Fr PA own f m t y L):=by
 intro k T E;have x:=H.ok p g;refine cUx func285 ?_;simp only[go_sem, ↓ag 280];apply(Df H p (gen p) _).bu;rintro v f1 m1 ⟨rfl,P⟩;rw[ao ⟨Z,g,rfl⟩];have c:((p:Int)).toNat=p:=rfl;have ew:IntKind.i64.wrap ((acc p).h+(acc p).r)=(acc p).h+(acc p).r:=cB (by unfold qk at x;omega);unfold Acc.v Acc.cs;by_cases hb:0<(acc p).h+(acc p).r
 .simp only[ao hb] at E;refine zS ?_;exact E _ _ _ ⟨rfl,(B.w (m2:=m1) Qn J0)⟩
 .simp only[aj hb] at E;have hA:=(H.gr P).aA.obj;have hm:=(H.gr P).am.obj;have u:A≠m1:=K8;have b:A≠a.mp:=W;have e3:a.mp≠m1:=Xr;simp only[go_sem,c,ew,hb,hA,hm,u,b,e3, ↓ag 295];refine aP ?_;intro F j;have o:Fr (· =32) own f m own F (pl m1 1):=by rw[j];exact(B.fr (B.w (m2:=m1) Qn J0) own (· =32)).bw (λ_=>H.am.own)
  apply(sd (H.s.ah o I I) p g hg).bu;rintro v d m2 ⟨rfl,t,⟨n,M⟩,h0,q3⟩;have i:Fr PA own f m t d m2:=o.trans q3 (λ_ h=>.inl h) (λ_ h=>.inr h);have C:At own 32 F (pl m1 1) a.mp (.map (enc (iO a.l p)) a.ck):=⟨J3,H.am.own,by have:=H.am.lt;have:=P.le;unfold pl;omega⟩;refine zS ?_;refine E _ _ _ ⟨rfl,h0,t,⟨⟨a.S,a.mp,iO a.l p,a.ck,n⟩,⟨(H.aA.ah o I).ah q3 I,C.ah q3 I,H.wf.del _,λq N=>?_,λq N=>?_,M,i.z H.z⟩⟩,i⟩
  .have e:q≠p:=λe=>by subst e;rw[fu] at N;trivial
   rw[dn e] at N;rw[jH H.wf.keys,aj Z];exact H.mo q N
  .have e:q≠p:=λe=>by subst e;rw[fu] at N;trivial
   rw[dn e] at N;exact H.ok q N
def jj.n:jj->Nat
 |.Nu=>1 | .uj=>2 | .IQ=>3 | .LV=>4
def SI(R:Rt)(f)(m:Nat):Cl R.Y 416 [] f m (λv y L=>v= .agg [.fN,.fn 455 [] [],.fn 431 [] [],.fn 456 [] [],.fn 457 [] []]/\B f m y L):=by intro k S E;refine cUx func416 ?_;refine zS ?_;exact E _ _ _ ⟨rfl,(B.w (m2:=m) Qc E1)⟩
def a9B{R:Rt}(q:jj)(H:jC own f m A gen op cV acc a)(p:Nat)(hp:op p=true)(n:Int)(i:Nat)(hfd:eW K i=iM i)
  (hc:∀(R:Rt) f m,Cl R.Y.Y.Y.Y i [.agg [Q (acc p).c,Q (acc p).h,Q (acc p).r],Q n] f m (λv y L=>v= .cI [(if q.e (acc p) n=0 then q.ap (acc p) n else yz).v,Q (q.e (acc p) n)]/\B f m y L))
  (hl:bI [.fN,.fn 455 [] [],.fn 431 [] [],.fn 456 [] [],.fn 457 [] []] q.n= .fn i [] []):
  Cl R.Y.Y.Y.Y.Y 358 [.ptr A 0,Q (q.n:Nat),Q p,Q (gen p),Q n] f m (λv y L=>v=Q (q.e (acc p) n)/\(∃a',jC own y L A gen op cV (if q.e (acc p) n=0 then kq acc p (q.ap (acc p) n) else acc) a')/\Fr (· =32) own f m own y L/\(q.e (acc p) n≠0->B f m y L)):=by
 intro k T E;have Up:=H.ok p hp;refine cUx func358 ?_;simp only[go_sem, ↓ag 416];apply(SI _ f m).bu;rintro v f1 m1 ⟨rfl,P⟩;have c0:q.n<5:=A8;have c1:¬((q.n:Int)<1):=A8;have c2:¬(5<=(q.n:Int)):=Z;have hA:=(H.gr P).aA.obj;have u:A≠m1:=K8;have hi:=a5L A a.S a.mp;simp only[go_sem,hi,hA,u,c1,c2, ↓ag 280];refine aP ?_;intro F j;have o:B f m F (pl m1 1):=by rw[j];exact(B.w (m2:=m1) Qn J0)
 have IN:F m1= .row 577 5 0 true [.fN,.fN,.fN,.fN,.fN] (.cf (laid 0 [.fN,.fn 455 [] [],.fn 431 [] [],.fn 456 [] [],.fn 457 [] []] (zf [.fN,.fN,.fN,.fN,.fN]))):=J3;apply(Df (H.gr o) p (gen p) _).bu;rintro v f2 m2 ⟨rfl,q3⟩;rw[ao ⟨Z,hp,rfl⟩];have e0:((p:Int)).toNat=p:=rfl;unfold Acc.v Acc.cs;have xo:=(q3.ah m1 W).trans IN;have n1:m1≠m2:=by have:=q3.le;unfold pl at this;omega
 simp only[go_sem,e0,xo,n1,c0,hl,hfd, ↓ag i];refine aP ?_;intro aEZ hG;have q4:B f m aEZ (pl m2 1):=by rw[hG];exact(o.trans q3).trans (B.w (m2:=m2) Qc E1)
 apply(hc _ _ _).bu;rintro v N m3 ⟨rfl,M⟩;have x:=q4.trans M;have n2:N m2= .row 147 3 0 true [.num 0,.num 0,.num 0] (.cf (laid 0 [Q (acc p).c,Q (acc p).h,Q (acc p).r] (zf [.num 0,.num 0,.num 0]))):=by rw[M.ah m2 W,hG];exact aK ..
 have t:=(H.gr x).aA.obj;have hm3:=(H.gr x).am.obj;have e3:A≠m2:=by have:=(H.gr (o.trans q3)).aA.lt;omega
 have e4:a.mp≠m2:=by have:=(H.gr (o.trans q3)).am.lt;omega
 unfold Acc.v Acc.cs;by_cases b:q.e (acc p) n=0
 .simp only[ao b] at E ⊢;have hm2:m<=m2:=(o.trans q3).le;refine zS ?_;refine fG ?_;intro F3 tW;have C:=H.am.gr x;have D:=H.aA.gr x;have g:Fr (· =32) own f m own F3 m3:=by rw[tW];exact(B.fr (B.w (m2:=m3) Qu Z) own (· =32)).bw (λ_=>H.am.own)
  refine E _ _ _ ⟨by rw[b],⟨⟨a.S,a.mp,eJ a.l p (q.ap (acc p) n).v a.ck,im a.l p a.ck,a.sa⟩,?_⟩,g,Z⟩
  .refine ⟨H.aA.ah g I,⟨G2,C.own,C.lt⟩,H.wf.set _ _,λr d=>?_,λr d=>?_,H.s.ah g I I,g.z H.z⟩
   .rw [dR];by_cases e:r=p
    .subst e;rw[ao rfl,dQ]
    .rw [aj Z,gI e];exact H.mo r d
   .by_cases e:r=p
    .subst e;rw[dQ];unfold jj.e at b;split at b
     .trivial
     .split at b
      .rename_i h;exact h.2.2
      .cases q<;>cases b
    .rw [gI e];exact H.ok r d
 .simp only[aj b] at E ⊢;have hm2:m<=m2:=(o.trans q3).le;refine zS ?_;exact E _ _ _ ⟨rfl,⟨a,H.gr (B.w (m2:=m3) Qu Z)⟩,B.fr (B.w (m2:=m3) Qu Z) _ _,λ_=>(B.w (m2:=m3) Qu Z)⟩
end
def fM(acc:Nat->Acc)(os:aI):ay:=os.flatMap λ(p:Nat)=>Q p::(acc p).cs
def nK(acc:Nat->Acc)(os):(fM acc os).length=os.length*4:=by
 unfold fM
 induction os with
 |nil=>rfl
 |cons x t H=>rw[kj,eZ,H,kg];simp[Acc.cs];omega
def BP(acc:Nat->Acc)(os:aI)(i:Nat)(h:i<os.length):fM acc (os.take (i+1))=fM acc (os.take i)++(Q os[i]::(acc os[i]).cs):=by unfold fM;rw[jr h,mK];simp
section
variable {own:aG} {f:av} {m A cV:Nat} {gen:aG} {op:bs} {acc:Nat->Acc} {a:xg}
def Iy{R:Rt}(H:jC own f m A gen op cV acc a):
  Cl R.Y.Y.Y 71 [.ptr A 0] f m (λv y L=>B f m y L/\∃os:aI,os.Pairwise (· < ·)/\(∀x,x∈os↔op x=true)/\os.length<=64/\i7 y L 149 4 v os.length (fM acc os)/\Nw m v):=by
 intro k T hk;have hA:=H.aA.obj;have hi:=Ix H;refine cUx func71 ?_;simp only[go_sem,hi,hA, ↓ag 125];apply(Gj H.s).bu;rintro v f1 m1 ⟨P,os,h1,h2,hI⟩;have hos:os.length<=64:=dg (h1.imp Z) (λx S=>bW (H.s.lt W) H.s.fr);have apT:∀v y L,B f m y L->i7 y L 149 4 v os.length (fM acc os)->Nw m v->k v (.fn y L)=T:=W;rcases hI.len with⟨rfl,e⟩|⟨b,o,cp,rfl⟩
 .have e2:os= []:=by simpa using e
  subst e2;refine zS ?_;refine a3w ?_;unfold iB;refine zS ?_;exact apT _ _ _ P (.inl G) (λx o n c e=>by cases e)
 rw[dT];have n9:os.length<=9223372036854775807:=Z;refine zS ?_;refine cU (x:=.exit 0) (n:=os.length) (aF0:=λr e y L=>∃(i:Nat) (t:aG) (N:V),i+r=os.length/\(eg 0).get e= .ptr A 0/\(eg 13).get e= .sl b o os.length cp/\(eg 14).get e=Q os.length/\(eg 15).get e=Q i/\(eg 3).get e=N/\
   Fr (· =1) (λ_=>0) f1 m1 t y L/\bS t 1 y L 149 4 N i (fM acc (os.take i)))
  (E:=λe y L=>∃N,(eg 3).get e=N/\B f m y L/\i7 y L 149 4 N os.length (fM acc os)/\Nw m N) ?_ J2 ?_ ?_
 .exact ⟨0,λ_=>0,.au,Z,E6,E6,E6,E6,E6,Fr.refl _ _ _ _,bS.nil⟩
 .rintro r e y L ⟨i,t,N,Uu,e0,e13,e14,e15,e3,g2,M⟩ rr kx d hE;unfold iB;by_cases mO:i<os.length
  .obtain ⟨b',o',cp',mm,fz,w,z,g,ee,Uz,hf,l,p⟩:=(hI.gr g2.gr).at (i:=i) W;cases ee;have c1:(i:Int)<os.length:=Z;have hA1:=(H.gr (P.trans g2.gr)).aA.obj;have Ur:=(H.gr (P.trans g2.gr)).am.obj;have Dm:op os[i]=true:=W;have hmo:=H.mo os[i] Dm;unfold Acc.v Acc.cs at hmo;have p:g (o+i)=Q (os[i]:Nat):=by simpa using p
   have ew:IntKind.i64.wrap ((i:Int)+1)=((i+1:Nat):Int):=Qf;simp only[go_sem,e0,e13,e14,e15,e3,c1,mO,hf,l,p,hA1,Ur,hmo,M.live];refine gE ?_;intro F j;have q2:B y L F (pl L 1):=by rw[j];exact(B.w (m2:=L) Qc E1)
   refine dv (M.ah (q2.fr t (λ_=>False)) id) (n':=1) rfl ?_ Z Z ?_
   .intro u hu;simp at hu;rcases hu with rfl|rfl|rfl|rfl<;>exact iW _
   intro v2 dm f2 C xj q3;simp only[go_sem,xj.live,ew];refine d (r-1) _ _ _ Z ⟨i+1,dm,v2,Z,E6,E6,E6,E6,E6,(g2.trans (q2.fr t (· =1)) (λ_ h=>h) (λ_ h=>h)).trans q3 (λ_ h=>h) Z,?_⟩;rw[BP _ _ _ mO];trivial
  .have c1:¬((i:Int)<os.length):=by omega
   obtain rfl:i=os.length:=Z;refine zS ?_;refine hE _ _ _ ⟨N,e3,P.trans g2.gr,?_,M.nw (λx S=>by rw[g2.same x (bW S P.le)];decide)⟩;rw[mJ] at M;exact M.uf
 .rintro e y L ⟨N,e3,g,h,hw⟩;have hv:N≠ .undef:=Va;simp only[go_sem,e3,bN hv];grind
def a5M(own)(C:∀x,m<=x->own x=0)(R:Rt):
  Cl R.Y.Y 114 [] f m (λv y L=>∃A t a,v= .ptr A 0/\jC t y L A (λ_=>0) (λ_=>false) 0 (λ_=>yz) a/\Fr (λ_=>False) own f m t y L):=by
 intro k q E;have c:=xH own 33 f m 64 I R;refine cUx func114 ?_;simp only[go_sem, ↓ag 116];refine c.bu ?_;rintro v r l ⟨S,b,d,rfl,M,i⟩;refine zS ?_;refine fG ?_;intro F j;have o:Fr (λ_=>False) own f m (cm b l [32,9]) F (pl l 2):=by refine i.trans (Fr.cm (P:=λ_=>False) (f:=r) ?_ G) (λ_ h=>h) (λ_ h=>h);rw[j];exact B.fr (B.w (m2:=l) Qd E1) _ _
 have n:Fr (λ_=>False) b r l (cm b l [32,9]) F (pl l 2):=by refine Fr.cm (P:=λ_=>False) ?_ G;rw[j];exact B.fr (B.w (m2:=l) Qd E1) _ _
 refine E _ _ _ ⟨pl l 1,_,⟨S,l,[],0,d⟩,rfl,⟨gh J3 rfl G,ez Y0 rfl G,Wf.nil _,W,λp g=>G,M.ah n id id,o.z C⟩,o⟩
end
variable{S c m wr:Nat}{N:V}{own:aG}{f y:av}{g:dA}
def IF(b:NB)(u v:V)(q:aY):Bool:=
 V.rL u (λm=>V.ec v (λ_ n=>rT n (λn=>b.num (λ_=>b.int .i64 (.ofNat m) (.ofNat n) q) m n q) (λ_=>false)))
    (V.ec u (λk m=>V.ec v (λ_ n=>b.int k m n q)))
@[congr] theorem asA{b:NB}{u t v:V}(q:aY)(h:u=t)(g:v=N):IF b u v q=IF b t N q:=W
@[go_sem ↓]def ak3(R e h k)(x y:Operand):(gj .shr x y).run R e h k=IF (nb .shr) ((ax x).get e) ((ax y).get e) (λv=>k v h):=G
@[go_sem ↓]def ak4(R e h k)(x y:Operand):(gj .shl x y).run R e h k=IF (nb .shl) ((ax x).get e) ((ax y).get e) (λv=>k v h):=G
def wrap_u64{x:Int}(h:0<=x/\x<18446744073709551616):IntKind.u64.wrap x=x:=by unfold IntKind.wrap;simp[IntKind.signed,IntKind.bits];omega
def a7d(w n:Nat)(hn:n<64)(q:aY):IF (nb .shr) (.ik .u64 w) (Q n) q=q (.ik .u64 ((w/2^n:Nat):Int)):=by show V.ec (Q n) (λ_ n=>sf .shr .u64 w n q)=_;rw[mw];show mv .u64 ((w:Int).fdiv (2^(min n 64))) q=_;rw[mh,show min n 64=n by omega,Ol _ W];trivial
def By{n:Nat}(hn:n<64):2^n<18446744073709551616:=by have:=Nat.pow_lt_pow_right (a:=2) I hn;trivial
def Tn(n:Nat)(hn:n<64)(q:aY):IF (nb .shl) (.ik .u64 1) (Q n) q=q (.ik .u64 ((2^n:Nat):Int)):=by show V.ec (Q n) (λ_ n=>sf .shl .u64 1 n q)=_;rw[mw];show mv .u64 (IntKind.u64.wrap (1*2^(min n 64))) q=_;have hp:=By hn;rw[mh,show min n 64=n by omega,Int.one_mul,show((2:Int)^n)=((2^n:Nat):Int) by simp];generalize 2^n=p at hp;rw[wrap_u64 Z]
def bv{a:Nat}(h:a<18446744073709551616):(BitVec.ofInt 64 (a:Int)).toNat=a:=by grind
def yw{op:BinOp}(a b:Int)(q:aY):rF (nb op) (.ik .u64 a) (.ik .u64 b) q=(nb op).int .u64 a b q:=by trivial
def a9v{a b:Nat}(S:a<18446744073709551616)(s:b<18446744073709551616)(q:aY):rF (nb .and) (.ik .u64 a) (.ik .u64 b) q=q (.ik .u64 ((a &&& b:Nat):Int)):=by rw[yw];show mv .u64 (IntKind.u64.wrap ((BitVec.ofInt 64 a &&& BitVec.ofInt 64 b).toNat:Int)) q=_;have:a &&& b<18446744073709551616:=NQ FH S;rw[mh,BitVec.toNat_and,bv S,bv s,wrap_u64 Z]
def abM{a b:Nat}(S:a<18446744073709551616)(s:b<18446744073709551616)(q:aY):rF (nb .or) (.ik .u64 a) (.ik .u64 b) q=q (.ik .u64 ((a ||| b:Nat):Int)):=by rw[yw];show mv .u64 (IntKind.u64.wrap ((BitVec.ofInt 64 a ||| BitVec.ofInt 64 b).toNat:Int)) q=_;have:a ||| b<18446744073709551616:=NO (n:=64) S s;rw[mh,BitVec.toNat_or,bv S,bv s,wrap_u64 Z]
def ER(a b:Nat):Nat:=(BitVec.ofInt 64 a &&& ~~~(BitVec.ofInt 64 b)).toNat
def Lu(a b:Nat):ER a b<18446744073709551616:=BitVec.isLt _
def Yv{a b:Nat}(S:a<18446744073709551616)(s:b<18446744073709551616)(i:Nat)(F:i<64):(ER a b).testBit i=(a.testBit i&& !b.testBit i):=by unfold ER;grind
def a3H{a b:Nat}(q:aY):rF (nb .andNot) (.ik .u64 a) (.ik .u64 b) q=q (.ik .u64 ((ER a b:Nat):Int)):=by rw[yw];show mv .u64 (IntKind.u64.wrap ((ER a b:Nat):Int)) q=_;rw[mh,wrap_u64 ⟨Z,by have:=Lu a b;omega⟩]
@[grind cases] structure jX(own:aG)(c:Nat)(f:av)(m S n:Nat)(b:bs)(wr w:Nat)(z:ay)(g:dA):Prop where
 aS:At own c f m S (.row 463 261 0 true z (.cf g))
 g0:g 0= .sl wr 0 1 (.known 1)
 g1:g 1=Q n
 aw:∃wg,At own c f m wr (.row 407 1 0 true [.ik .u64 0] (.cf wg))/\wg 0= .ik .u64 w
 lt:w<18446744073709551616
 n1:n<=64
 b:∀i,i<64->w.testBit i=b i
def jX.ah{P:dF}{t:aG}{L n:Nat}{b:bs}{w:Nat}{z:ay}(h:jX own c f m S n b wr w z g)(q:Fr P own f m t y L)(a:¬P c):jX t c y L S n b wr w z g:=
 ⟨h.aS.ah q a,h.g0,h.g1,h.aw.imp (λ_ h=>⟨h.1.ah q a,h.2⟩),h.lt,h.n1,h.b⟩
section
variable {own:aG} {c:Nat} {f:av} {m S n:Nat} {b:bs} {wr w:Nat} {z:ay} {g:dA}
def bits_within(H:jX own c f m S n b wr w z g)(i:Nat)(F:i<n)(R:Rt)(L:Nat)(k):R.Y.call 264 [.ptr S 0,Q i] (.fn f L) k=k (.bool true) (.fn f L):=by have P:=H.aS.obj;have A:=H.g1;have c1:(i:Int)<n:=Z;refine cUx func264 ?_;exact zC
def a9q(w i:Nat):(((w/2^i &&& 1:Nat):Int)=1)=(w.testBit i=true):=by grind
def CW(H:jX own c f m S n b wr w z g)(i:Nat)(F:i<n)(R:Rt)(L:Nat)(k):R.Y.Y.call 265 [.ptr S 0,Q i] (.fn f L) k=k (.bool (b i)) (.fn f L):=by
 have P:=H.aS.obj;have s:=H.g0;obtain⟨h,a,e⟩:=H.aw;have l:=a.obj;have p:=bits_within H i F;have d:i<64:=O8;have u:IntKind.i64.wrap ((i:Int).tdiv 64)=0:=Wm;have j:(i:Int).tmod 64=i:=Wn;have M:w/2^i<18446744073709551616:=NQ (AA _ _) H.lt;have o:∀q,rF (nb .and) (.ik .u64 ((w/2^i:Nat):Int)) (.ik .u64 1) q=q (.ik .u64 ((w/2^i &&& 1:Nat):Int)):=λq=>a9v (b:=1) M I q;have r:pb (((w/2^i &&& 1:Nat):Int)=1)=b i:=by
  rw[a9q,H.b i d];cases b i
  .exact kM J1
  .exact mZ rfl
 refine cUx func265 ?_;simp only[go_sem,P,s,l,e,p,u,j,a7d w i d,o,r]
def MT{R:Rt}(H:jX own c f m S n b wr w z g)(i:Nat)(F:i<n)(q:b i=false):
  Cl R.Y.Y.Y 178 [.ptr S 0,Q i] f m (λv y L=>v= .bool true/\L=m/\(∃w',jX own c y m S n (λj=>if j=i then true else b j) wr w' z g)/\Fr (· =c) own f m own y m):=by
 intro k x E;have P:=H.aS.obj;have s:=H.g0;obtain⟨h,a,e⟩:=H.aw;have l:=a.obj;have M:=bits_within H i F;have r:=CW H i F;have d:i<64:=O8;have o:S≠wr:=W;have u:IntKind.i64.wrap ((i:Int).tdiv 64)=0:=Wm;have p:(i:Int).tmod 64=i:=Wn;have hp:=By d;refine cUx func178 ?_;simp only[go_sem,P,s,l,e,M,r,q,u,p,Tn i d,abM H.lt hp];refine E _ _ _ ?_;refine⟨rfl,rfl,⟨w ||| 2^i,⟨by simp only[go_sem,o];trivial,H.aS.own,H.aS.lt⟩,H.g0,H.g1,⟨_,⟨aK ..,a.own,a.lt⟩,G⟩,NO (n:=64) H.lt hp,H.n1,λj t=>?_⟩,(Fr.refl _ own f m).bw (λ_=>a.own)⟩;rw[Nat.testBit_or,H.b j t,Nat.testBit_two_pow];grind
def a0j{R:Rt}(H:jX own c f m S n b wr w z g)(i:Nat)(F:i<n)(r:b i=true):
  Cl R.Y.Y.Y 470 [.ptr S 0,Q i] f m (λv y L=>v= .bool true/\L=m/\(∃w',jX own c y m S n (λj=>if j=i then false else b j) wr w' z g)/\Fr (· =c) own f m own y m):=by
 intro k x E;have P:=H.aS.obj;have s:=H.g0;obtain⟨h,a,e⟩:=H.aw;have l:=a.obj;have t:=CW H i F;have d:i<64:=O8;have p:S≠wr:=W;have u:IntKind.i64.wrap ((i:Int).tdiv 64)=0:=Wm;have q:(i:Int).tmod 64=i:=Wn;have hp:=By d;refine cUx func470 ?_;simp only[go_sem,P,s,l,e,t,r,u,q,Tn i d,a3H];refine E _ _ _ ?_;refine⟨rfl,rfl,⟨ER w (2^i),⟨by simp only[go_sem,p];trivial,H.aS.own,H.aS.lt⟩,H.g0,H.g1,⟨_,⟨aK ..,a.own,a.lt⟩,G⟩,Lu _ _,H.n1,λj o=>?_⟩,(Fr.refl _ own f m).bw (λ_=>a.own)⟩;rw[Yv H.lt hp j o,H.b j o,Nat.testBit_two_pow];grind
end
end
end Go.Ev.Sy
namespace Go.Ev.Sy
open Go Go.Ev Go.Proofs
noncomputable section
variable{h h':Heap}{fz i l m mm p t ty zB:Nat}{N s':V}{f:av}{xs ys zs:ay}{g:dA}
def rgs(o:O)(p n:Nat)(k:ay->Bool):Bool:=O.eO o (λ_ m _ _ z c=>aR (Nat.ble (Nat.add p n) m) (jg c z n p k) false)
@[congr] theorem asL{o u:O}{n:Nat}(k:ay->Bool)(h:o=u):rgs o p n k=rgs u p n k:=U8
def ldL(n:Nat)(a:Operand):fy:=⟨λ_ e h k=>V.dW ((ax a).get e) (λi o=>rgs (bL i h) o n (λl=>k (.agg l) h))⟩
@[go_sem ↓]def atY(n:Nat)(a:Operand)(R e h k):(ldL n a).run R e h k=V.dW ((ax a).get e) (λi o=>rgs (bL i h) o n (λl=>k (.agg l) h)):=G
def abx{n:Nat}{w:Bool}{z:ay}(A:p+n<=m)(N:∀j,j<n->g (p+j)≠ .undef)(k:ay->Bool):rgs (.row zB m fz w z (.cf g)) p n k=k ((List.range' p n).map g):=by show aR (Nat.ble (p+n) m) _ false=_;rw[cw A,gV N]
@[go_sem ↓]def aoG(a:Operand):bE K 543 a=ldL 64 a:=G
def lnT(v:V)(q:aY):Bool:=V.ig v (λs=>gy (eK s) (λn=>aR (Nat.ble n cO) (q (.num n)) false))
@[congr] theorem atO{v:V}(q:aY)(h:v=N):lnT v q=lnT N q:=U8
def Aj{s:aI}(h:s.length<=9223372036854775807)(q:aY):lnT (.str s) q=q (Q s.length):=by show aR (Nat.ble (eK s) cO) (q (.num (eK s))) false=_;rw[dx,cw (b:=cO) h,yW _ h]
def ahr(x:Operand):fy:=⟨λ_ e h k=>lnT ((ax x).get e) (λv=>k v h)⟩
@[go_sem ↓]def aot(x:Operand)(R e h k):(ahr x).run R e h k=lnT ((ax x).get e) (λv=>k v h):=G
def isStr(T:TI):Bool:=match T.desc with | .string=>true|_=>false
@[go_sem ↓]def aos(x:Operand):aV K .len [9] [x]=ahr x:=G
def a55(v:V)(l:Nat)(q:aY):Bool:=V.ig v (λs=>iE (eK s) s (λp=>eR l p (λr=>q (.str r))))
@[congr] theorem arq{v:V}(l:Nat)(q:aY)(h:v=N):a55 v l q=a55 N l q:=U8
def a54{s:aI}(h:l<=s.length)(q:aY):a55 (.str s) l q=q (.str (s.drop l)):=by show iE (eK s) s _=_;rw[dx,JG Z,mJ,a4Y h]
def a52(x lo:Operand):fy:=⟨λ_ e h k=>V.dD ((ax lo).get e) (λl=>a55 ((ax x).get e) l (λv=>k v h))⟩
@[go_sem ↓]def aml(x lo:Operand)(R e h k):(a52 x lo).run R e h k=V.dD ((ax lo).get e) (λl=>a55 ((ax x).get e) l (λv=>k v h)):=G
def Kx(v u)(q:aI->bs):V.ig v (λs=>V.dD u (λl=>q s l))=V.dD u (λl=>V.ig v (λs=>q s l)):=by cases v<;>first|rfl|(cases u<;>first|rfl|(rename_i x;cases x<;>rfl)|(rename_i p x;cases x<;>rfl))
def adl(hc:ly t isStr=true)(x lo:Operand):gq K t x (some lo) none none=a52 x lo:=by
 obtain⟨S,A,N⟩:=cz hc;unfold isStr at N;split at N
 .rename_i f;apply fy.ext;intro R e h k;unfold gq;simp only[A,f];exact Kx _ _ (λs l=>iE (eK s) s (λp=>eR l p (λr=>k (.str r) h)))
 trivial
@[go_sem ↓]def amk(x lo:Operand):gq K 9 x (some lo) none none=a52 x lo:=adl G x lo
def UW(s:aI):ay:=s.map λ(b:Nat)=>V.ik .u8 (b:Int)
def cpT(d s:V)(h:Heap)(k:cR):Bool:=rA d h (td s) k
@[congr] theorem awa{d i s:V}(k)(A:d=i)(N:s=s')(M:h=h'):cpT d s h k=cpT i s' h' k:=W
def ajE(d s:Operand):fy:=⟨λ_ e h k=>cpT ((ax d).get e) ((ax s).get e) h k⟩
@[go_sem ↓]def arv(d s:Operand)(R e h k):(ajE d s).run R e h k=cpT ((ax d).get e) ((ax s).get e) h k:=G
@[go_sem ↓]def aru(d s:Operand):aV K .copy [25,9] [d,s]=ajE d s:=G
def a9c{o n:Nat}{cp:Cp}{s:aI}{w:Bool}(hf:f i= .row ty mm 0 w zs (.cf g))(R:o+n<=mm)(k):
  cpT (.sl i o n cp) (.str s) (.fn f m) k=k (.ik .i64 (min s.length n:Nat)) (.fn (bw f i (.row ty mm 0 w zs (.cf (laid o (UW (s.take n)) g)))) m):=by
 show gy (PJ (eK s) n) (λq=>iE q s (λl=>bQ (l.map λb=>V.ik .u8 (.ofNat b)) [] (λH=>eI i o H (.fn f m) (λh=>k (.ik .i64 (.ofNat q)) h))))=_;rw[LY,BO,dx,JG Z,bB,j9,kC];show O.eO (f i) _=_;rw[hf];show aR (Nat.ble (o+eK ((s.take (min s.length n)).map λb=>V.ik .u8 (.ofNat b))) mm) _ false=_;have t:((s.take (min s.length n)).map λb=>V.ik .u8 (.ofNat b)).length<=n:=Y6;rw[dx,cw Z];show aR (Nat.ble 0 o) _ false=_;rw[cw Z,gM];have:s.take (min s.length n)=s.take n:=by rw[Nat.min_comm,←List.take_take,mJ]
 rw[this];rfl
def a4U(C)(d t:Nat){M:IntKind}{f:TI}(z:C.ty t=some f)(k:f.desc= .int M)(xs ys)(m:∀v∈xs,∃n:Int,v= .ik .u8 n)(p:∀v∈ys,∃n:Int,v= .ik .u8 n):
  ∀l:aI,(∀i∈l,i<xs.length/\i<ys.length)->∃b,∀q,(cE (⟨λ_ _ q=>q true⟩:NG) (λi _ r=>ka (mF C (d+1) t) false 1 (Nat.mul i 1) r) l).run xs ys q=q b:=by
 have g:∀a c q,(mF C (d+1) t).run (.ik .u8 a) (.ik .u8 c) q=q (pb (a=c)):=by intro a c q;unfold mF;rw[z];simp only[k];exact adx .u8 a c q
 generalize mF C (d+1) t=E at g;intro l
 induction l with
 |nil=>exact λ_=>⟨true,λq=>rfl⟩
 |cons i l H=>
  intro h;obtain⟨b,s⟩:=H W;have F:=h i W;obtain⟨a,S⟩:=m _ (eL F.1);obtain⟨c,j⟩:=p _ (eL F.2);refine⟨pb (a=c)&&b,λq=>?_⟩;rw[ga];show jZ xs (i*1) (λx=>jZ ys (i*1) (λy=>E.run x y (λc=>aR c _ (q false))))=_;rw[nV,sy (bT Z),sy (bT Z),S,j,g,s];by_cases e:a=c
  .rw [mZ e];rfl
  .rw [kM e];rfl
def cmR(v w:V)(q:Bool->Bool):Bool:=V.dY v (λ_=>V.dY w (λ_=>(mF K 20 543).run v w q))
@[congr] theorem awc{v w w':V}(q:Bool->Bool)(h:v=N)(a:w=w'):cmR v w q=cmR N w' q:=W
def ajG(x y:Operand):fy:=⟨λ_ e h k=>cmR ((ax x).get e) ((ax y).get e) (λb=>lp b (λv=>k v h))⟩
@[go_sem ↓]def arz(x y:Operand)(R e h k):(ajG x y).run R e h k=cmR ((ax x).get e) ((ax y).get e) (λb=>lp b (λv=>k v h)):=G
@[go_sem ↓]def amo(x y:Nat):da K .eql 543 (.tmp x) (.tmp y)=ajG (.tmp x) (.tmp y):=G
def acG(T:TI):Bool:=aR (isK .u8 T) (Nat.beq T.sz 1) false
def QL(n t:Nat)(T:TI):Bool:=match T.desc with | .array a b=>aR (Nat.beq a n) (Nat.beq b t) false|_=>false
def a5p:ly 543 (QL 64 5)=true:=G
def ag9:ly 5 acG=true:=G
def a4V(C)(d t u n:Nat){T E:TI}(A:C.ty t=some T)(l:T.desc= .array n u)(M:C.ty u=some E)(hd:E.desc= .int .u8)(a:E.sz=1)(hl:xs.length=n)(F:ys.length=n)(S:∀v∈xs,∃n:Int,v= .ik .u8 n)(p:∀v∈ys,∃n:Int,v= .ik .u8 n):
  ∃b,∀q,(mF C (d+1+1) t).run (.agg xs) (.agg ys) q=q b:=by
 obtain⟨b,s⟩:=a4U C d u M hd xs ys S p (List.range n) W;refine⟨b,λq=>?_⟩;have:iC E.desc=false:=by rw[hd];rfl
 rw[mF,A];simp only[l,M];rw[this,a];exact s q
def adU{D:Nat}(n:20=D){q:Bool->Bool}{b:Bool}(h:(mF K D 543).run (.agg xs) (.agg ys) q=q b):cmR (.agg xs) (.agg ys) q=q b:=by subst n;unfold cmR;rw[Ey,Ey];exact h
def ae5{n:Nat}{T:TI}(N:QL n t T=true):T.desc= .array n t:=by
 unfold QL at N;split at N
 .rename_i a b l;cases S:Nat.beq a n with
  |false=>rw[S] at N;trivial
  |true=>rw[S] at N;rw[l,br S,br N]
 trivial
def adV(hl:xs.length=64)(F:ys.length=64)(S:∀v∈xs,∃n:Int,v= .ik .u8 n)(p:∀v∈ys,∃n:Int,v= .ik .u8 n):∃b,∀q,cmR (.agg xs) (.agg ys) q=q b:=by
 obtain⟨c,A,N⟩:=cz a5p;obtain⟨E,M,u⟩:=cz ag9;have a:isK .u8 E=true:=by
  unfold acG at u;cases a:isK .u8 E with
  |true=>rfl
  |false=>rw[a] at u;cases u
 have C:E.sz=1:=by unfold acG at u;rw[a] at u;exact br u
 obtain⟨b,s⟩:=a4V K 18 _ _ _ A (ae5 N) M (aaj a) C hl F S p;exact⟨b,λq=>adU I (s q)⟩
variable{c:Nat}
def men(t:Nat)(z:V)(a d:V)(h:Heap)(k:cR):Bool:=
 V.cH a (λi=>O.cH (bL i h) (λl c=>V.live d (λq=>
   pd (kY K t) q l (λ_=>V.live z (λz=>bQ l [(q,z,c)] (λl=>gy (Nat.add c 1) (λL=>eX i (.map l L) h (λh=>k (.cI [z,.ik .i64 (.ofNat c)]) h)))))
    (λj v b=>Go.Ev.uM l j (q,v,b) (λl=>eX i (.map l c) h (λh=>k (.cI [v,.ik .i64 (.ofNat b)]) h)))))) false
@[congr] theorem atD{z a b d c:V}(k)(A:a=b)(N:d=c)(M:h=h'):men t z a d h k=men t z b c h' k:=W
def eno(t:Nat)(z:V)(m key:Operand):fy:=⟨λR e h k=>men t z ((ax m).get e) ((ax key).get e) h k⟩
@[go_sem ↓]def avI(t:Nat)(z)(m key:Operand)(R e h k):(eno t z m key).run R e h k=men t z ((ax m).get e) ((ax key).get e) h k:=G
def RE{l:List (Int×V×Nat)}{x:Int}(h:cC l x=none)(i:Nat)(iU:Bool)(hit:Nat->V->bs):mz l x i iU hit=iU:=by
 induction l generalizing i with
 |nil=>rfl
 |cons p l H=>obtain⟨a,v,b⟩:=p;unfold cC at h;unfold mz;grind
def tz{l:List (Int×V×Nat)}{x:Int}(h:cC l x=none)(v)(c:Nat):eJ l x v c=l++ [(x,v,c)]:=by
 induction l with
 |nil=>rfl
 |cons p l H=>obtain⟨a,u,b⟩:=p;unfold cC at h;unfold eJ;grind
def TY{z:V}(hc:DE t z)(C:z≠ .undef){x:Int}{n:Nat}{l:List (Int×V×Nat)}(hf:f i= .map (enc l) c)(S:cC l x=none)(k:cR):
  men t z (.map i) (Q x) (.fn f n) k=k (.cI [z,.ik .i64 c]) (.fn (bw f i (.map (enc (eJ l x z c)) (c+1))) n):=by
 obtain⟨E,A,N,M⟩:=hc;show O.cH (f i) _=_;rw[hf];show V.live (Q x) _=_;rw[r0,pU M,RE S,bN C,bB];rw[tz S];show k (.cI [z,.ik .i64 (.ofNat c)]) (.fn (bw f i (.map (enc l++ [(Q x,z,c)]) (c+1))) n)=_;rw[show enc l++ [(Q x,z,c)]=enc (l++ [(x,z,c)]) by simp[enc]];rfl
def mes(a d z:V)(h:Heap)(k:cR):Bool:=V.cH a (λi=>O.cH (bL i h) (λl c=>V.dD d (λb=>V.live z (λv=>UY b l (λj q=>Go.Ev.uM l j (q,v,b) (λl=>eX i (.map l c) h (λh=>k cA h))))))) false
@[congr] theorem atC{a b d c z e:V}(k)(A:a=b)(N:d=c)(u:z=e)(M:h=h'):mes a d z h k=mes b c e h' k:=W
@[go_sem ↓]def atB(m s x:Operand)(R e h k):(mA m s x).run R e h k=mes ((ax m).get e) ((ax s).get e) ((ax x).get e) h k:=G
def a5w{l:List (Int×V×Nat)}{x:Int}{z:V}(hl:∀p∈l,p.2.2<c)(hit:Nat->aY):UY c (enc (l++ [(x,z,c)])) hit=hit l.length (Q x):=by
 have key:∀(l:List (Int×V×Nat)) (i:Nat),(∀p∈l,p.2.2<c)->cE (λ(_:Nat)=>false) (λy _ r i=>gK y (λq k=>gK k (λ_ b=>aR (Nat.beq b c) (hit i q) (gy (Nat.add i 1) r)))) (enc (l++ [(x,z,c)])) i=hit (i+l.length) (Q x):=by
  intro l
  induction l with
  |nil=>intro i _;show aR (Nat.beq c c) (hit i (Q x)) _=_;rw[fP];rfl
  |cons p l H=>intro i h;obtain⟨a,v,b⟩:=p;have s:b≠c:=NW (h _ (ko ..));show aR (Nat.beq b c) _ (cE (λ(_:Nat)=>false) _ (enc (l++ [(x,z,c)])) (i+1))=_;rw[pO,kM s,ET,H (i+1) W,kg];grind
 have:=key l 0 hl;rw[dz] at this;trivial
def TX{x:Int}{v z:V}(H:v≠ .undef){n:Nat}{l:List (Int×V×Nat)}(hf:f i= .map (enc (eJ l x z c)) (c+1))(S:cC l x=none)(w:Wf l c)(k):
  mes (.map i) (.ik .i64 c) v (.fn f n) k=k cA (.fn (bw f i (.map (enc (eJ l x v c)) (c+1))) n):=by
 show O.cH (f i) _=_;rw[hf,tz S,tz S];show V.live v _=_;rw[bN H,a5w w.lt,vW];simp only[List.set_append,uz,if_false,mH,FK];rfl
@[go_sem ↓]def avJ(m key:Operand):vj K 218 m key=eno 218 (.num 0) m key:=G
@[go_sem ↓]def avK(m key:Operand):vj K 140 m key=eno 140 (.bg) m key:=G
end
end Go.Ev.Sy
namespace Go.Ev.Sy
open Go Go.Ev Go.Proofs
open Tryz
noncomputable section
variable{h h':Heap}{i m t:Nat}{N:V}{f y:av}{zs:ay}{g:dA}
def z64:ay:=List.replicate 64 (.ik .u8 0)
def mpZ:DE 544 (.agg z64):=BN
@[go_sem ↓]def lkZ ok m k:gx K 544 m k ok=lko 544 (.agg z64) ok m k:=HK mpZ ok m k
@[go_sem]def mgZ l c x h k:IJ 544 (.agg z64) false (.map (enc l) c) x h k=k ((cC l x).getD (.agg z64)) h:=oX mpZ (λh=>Q8) l c x h k
@[go_sem ↓]def alZ:dK K 543=vL 543 64 z64:=G
def stB(v w:V)(h:Heap)(k:cR):Bool:=V.dW v (λi o=>V.dY w (λH=>aR (Nat.beq (eK H) 64) (eI i o H h (λh=>k cA h)) false))
@[congr] theorem asu{v w w':V}(k)(A:v=N)(a:w=w')(M:h=h'):stB v w h k=stB N w' h' k:=W
def agl(a x:Operand):fy:=⟨λ_ e h k=>stB ((ax a).get e) ((ax x).get e) h k⟩
@[go_sem ↓]def ank(a x:Operand)(R e h k):(agl a x).run R e h k=stB ((ax a).get e) ((ax x).get e) h k:=G
@[go_sem ↓]def sZ a x:cZ K 543 a x=agl a x:=G
def Th{l:ay}{w:Bool}(hf:f i= .row t 64 0 w zs (.cf g))(hl:l.length=64)(k):
  stB (.ptr i 0) (.agg l) (.fn f m) k=k cA (.fn (bw f i (.row t 64 0 w zs (.cf (laid 0 l g)))) m):=by
 show aR (Nat.beq (eK l) 64) (O.eO (f i) _) false=_;rw[hf,dx,hl];show lq l 0 (.cf g) _=_;rw[gM];rfl
def bzo:fy:=⟨λ_ e h k=>k (.agg z64) h⟩
@[go_sem ↓]def awn(R e h k):bzo.run R e h k=k (.agg z64) h:=G
@[go_sem ↓]def bdZ:bJ K 543 []=bzo:=G
def sao(n z:Nat)(x:Operand)(lo F:Option Operand):fy:=⟨λ_ e h k=>V.dW ((ax x).get e) (λb o=>(sR 0 lo).run e (λl=>(DL F).run n e (λg=>cT z b o l g n (λv=>k v h))))⟩
@[go_sem ↓]def asD(n z:Nat)(x:Operand)(lo F:Option Operand)(R e h k):(sao n z x lo F).run R e h k=V.dW ((ax x).get e) (λb o=>(sR 0 lo).run e (λl=>(DL F).run n e (λg=>cT z b o l g n (λv=>k v h)))):=G
@[go_sem ↓]def anA(x:Operand)(lo F:Option Operand):gq K 543 x lo F none=sao 64 1 x lo F:=G
def IsB(v:V):Prop:=∃n:Nat,v= .ik .u8 n/\n<256
def IsB.ne{v:V}(h:IsB v):v≠ .undef:=by obtain⟨n,rfl,_⟩:=h;grind
def a5S(v:V):Prop:=∃l,v= .agg l/\l.length=64/\∀u∈l,IsB u
def FW:z64.length=64:=G
def a1l:∀u∈z64,IsB u:=λu L=>⟨0,(List.mem_replicate.1 L).2,I⟩
structure a0x where
 M:Nat
 l:List (Int×V×Nat)
 ck:Nat
@[grind cases] structure hJ(own:aG)(c:Nat)(f:av)(m aF1 sz:Nat)(a:a0x):Prop where
 aB:At own 9 f m aF1 (.row 546 2 0 true [.fR,.num 0] (.cf (bI [.map a.M,Q sz])))
 aM:At own c f m a.M (.map (enc a.l) a.ck)
 wf:Wf a.l a.ck
 rw:∀x v,cC a.l x=some v->a5S v
 s1:1<=sz
 s2:sz<=65536
def a5q(g:dA):O:=.row 543 64 0 true z64 (.cf g)
section
variable {own:aG} {c:Nat} {f:av} {m aF1 sz:Nat} {a:a0x}
def hJ.ah{P:dF}{t:aG}{L:Nat}(h:hJ own c f m aF1 sz a)(q:Fr P own f m t y L)(d:¬P 9)(hc:¬P c):hJ t c y L aF1 sz a:=⟨h.aB.ah q d,h.aM.ah q hc,h.wf,h.rw,h.s1,h.s2⟩
def aen(R:Rt)(own:aG)(c:Nat)(f:av)(m n l:Nat)(a:ay):Prop:=
 ∀(F:av) (M i o q j:Nat) (g:dA),Fr (· =c) own f m own F M->m<=i->i<M->F i=a5q g->o+q<=64->j+q<=n->(∀x,x<64->IsB (g x))->
  Cl R l ([.sl i o q (.known (64-o)),Q j]++a) F M (λv b p=>∃P,b=bw F i (a5q P)/\p=M/\∀x,x<64->IsB (P x))
def UX{R:Rt}(H:hJ own c f m aF1 sz a)(hc:c≠0)(hc9:c≠9)(p n fc:Nat)(ae1)(hp:p+n<=sz)(hfd:eW K fc=iM fc)(hF:aen R own c f m n fc ae1):
  Cl R.Y 375 [.ptr aF1 0,Q p,Q n,.fn fc [] ae1] f m (λv y m'=>(∃a',hJ own c y m' aF1 sz a')/\Fr (· =c) own f m own y m'):=by
 intro k T hk;have IK:=H.s2;refine cUx func375 ?_;refine zS ?_;refine cU (x:=.exit 0) (n:=n) (aF0:=λr e y m'=>∃(j:Nat) (a':a0x),j+r=n/\(eg 0).get e= .ptr aF1 0/\(eg 1).get e=Q p/\(eg 2).get e=Q n/\(eg 3).get e= .fn fc [] ae1/\(eg 8).get e=Q j/\hJ own c y m' aF1 sz a'/\Fr (· =c) own f m own y m')
  (E:=λe y m'=>∃a',hJ own c y m' aF1 sz a'/\Fr (· =c) own f m own y m') ?_ J2 ?_ ?_
 .exact ⟨0,a,Z,E6,E6,E6,E6,E6,H,Fr.refl _ _ _ _⟩
 .rintro r e f1 m1 ⟨j,a1,hjr,e0,e1,e2,e3,e8,A,q1⟩ rr kx hr hE;unfold iB;by_cases mO:j<n
  .have c1:(j:Int)<n:=by omega
   have N:IntKind.i64.wrap ((p:Int)+j)=((p+j:Nat):Int):=Qf;have hB:=A.aB.obj;have hM:=A.aM.obj;have e5:aF1≠m1:=Jt;have e6:a1.M≠m1:=by have:=A.aM.lt;omega
   obtain⟨aEY,hK⟩:∃aEY,aEY=IntKind.i64.wrap (((p+j:Nat):Int).tdiv 64):=W;obtain⟨s,hs⟩:∃s,s=(p+j)%64:=W;have ap5:s<64:=Z;obtain⟨q,hq⟩:∃q,q=min (64-s) (n-j):=W;have hq1:1<=q:=Z;have hq2:s+q<=64:=Z;have hq3:j+q<=n:=Z;have er:((p+j:Nat):Int).tmod 64=(s:Nat):=by rw[hs];rfl
   have C:IntKind.i64.wrap (64-(s:Int))=((64-s:Nat):Int):=Ql;have ew3:IntKind.i64.wrap ((n:Int)-(j:Int))=((n-j:Nat):Int):=Ql;have em:min ((64-s:Nat):Int) ((n-j:Nat):Int)=(q:Nat):=Z;have ew4:IntKind.i64.wrap ((s:Int)+(q:Int))=((s+q:Nat):Int):=Qf;have ew5:IntKind.i64.wrap ((j:Int)+(q:Int))=((j+q:Nat):Int):=Qf;have c2:(0:Int)<=(s:Nat):=Z;have c3:(0:Int)<=((s+q:Nat):Int):=Z;have c4:s<=s+q:=Z;have HE:rz 64 s 0 1=s:=Vi;have c5:s+q-s=q:=Z;obtain⟨L,hL,ad8,hLb⟩:a5S ((cC a1.l aEY).getD (.agg z64)):=by
    cases S:cC a1.l aEY with
    |none=>exact⟨z64,rfl,FW,a1l⟩
    |some v=>exact A.rw _ _ S
   have Nz:=λF M k=>Th (f:=bw F m1 (.row 543 64 0 true z64 (.cf (zf z64)))) (m:=M) (i:=m1) (t:=543) (zs:=z64) (l:=L) (g:=zf z64) (w:=true) (hf:=aK ..) (hl:=ad8) (k:=k);simp only[go_sem, ↓lkZ, ↓alZ, ↓sZ, ↓bdZ,e0,e1,e2,e3,e8,c1,N,hB,hM,←hK,er,C,ew3,em,ew4,c2,c3,c4,iI,HE,c5,hL,Nz,hq2,hfd, ↓ag fc];refine aP ?_;intro F IN;have LN:F m1=a5q (laid 0 L (zf z64)):=by rw[IN];exact aK ..
   have qF:Fr (· =c) own f m own F (pl m1 1):=q1.trans (by rw[IN];exact B.fr (B.w (m2:=m1) Qc E1) own (· =c)) Z Z;have QV:∀x,x<64->IsB (laid 0 L (zf z64) x):=λx S=>by rw[QH Z,dH Z];grind
   apply(hF F (pl m1 1) m1 s q j _ qF q1.le W LN hq2 hq3 QV).bu;rintro v f2 m2 ⟨P,rfl,rfl,apQ⟩;have hrg:=λk=>abx (zB:=543) (m:=64) (fz:=0) (p:=0) (n:=64) (w:=true) (z:=z64) (g:=P) I (λx S=>by rw[dz];exact(apQ x S).ne) k;have aiQ:∀u∈(List.range' 0 64).map P,IsB u:=λu hu=>by grind
   have hLl:((List.range' 0 64).map P).length=64:=J1;obtain⟨b,hb⟩:=adV hLl FW (λu hu=>by obtain⟨x,e,_⟩:=aiQ u hu;grind) (λu hu=>by obtain⟨x,e,_⟩:=a1l u hu;grind);generalize (List.range' 0 64).map P=L2 at *;have hBF:F aF1=(.row 546 2 0 true [.fR,.num 0] (.cf (bI [.map a1.M,Q sz]))):=by rw[IN,aE e5,aE e5];exact hB
   have hMF:F a1.M= .map (enc a1.l) a1.ck:=by rw[IN,aE e6,aE e6];exact hM
   have d:aF1≠a1.M:=W;have hle:=q1.le;have hMl:=A.aM.lt;have hBl:=A.aB.lt;have qf:=λg o=>(qF.bw (x:=m1) (o:=g) Z).bw (x:=a1.M) (o:=o) (λ_=>A.aM.own);cases b with
   |true=>
    simp only[go_sem,e0,e8,hrg,hb,a5q,hBF,hMF,e5,e6,ew5,em];refine hr (r-q) _ _ _ Z ⟨j+q,⟨a1.M,iO a1.l aEY,a1.ck⟩,Z,E6,E6,E6,E6,E6,⟨⟨Jl,A.aB.own,Jm⟩,⟨aK ..,A.aM.own,B7⟩,A.wf.del aEY,λx v S=>?_,A.s1,A.s2⟩,W⟩;rw[jH A.wf.keys] at S;split at S
    .trivial
    .exact A.rw x v S
   |false=>
    simp only[go_sem,e0,e8,hrg,hb,a5q,hBF,hMF,e5,e6,ew5,em];refine hr (r-q) _ _ _ Z ⟨j+q,⟨a1.M,eJ a1.l aEY (.agg L2) a1.ck,im a1.l aEY a1.ck⟩,Z,E6,E6,E6,E6,E6,⟨⟨Jl,A.aB.own,Jm⟩,⟨aK ..,A.aM.own,B7⟩,A.wf.set aEY (.agg L2),λx v S=>?_,A.s1,A.s2⟩,W⟩;rw[dR] at S;split at S
    .cases S;exact⟨L2,rfl,hLl,aiQ⟩
    .exact A.rw x v S
  .have c1:¬(j:Int)<n:=by omega
   refine zS ?_;grind
 .rintro e y m' ⟨a',h,q⟩;refine zS ?_;grind
end
variable{c fz l mm n2 ty:Nat}
@[go_sem]def amL(x:Int)(n:Nat)(q:aY):rF (nb .add) (Q x) (.ik .i64 (n:Nat)) q=q (Q (IntKind.i64.wrap (x+n))):=by
 rcases gk x with⟨m,_,rfl,h⟩|⟨_,h⟩
 .rw [h];exact fV _ _
 .rw [h];exact fV _ _
def UR{L o o2 n:Nat}{cp cp2:Cp}{e:Nat}{w u:Bool}{d:ay}{z:dA}(hf:f i= .row ty mm 0 w zs (.cf g))(h:f L= .row l c e u d (.cf z))(R:o+min n2 n<=mm)(b:o2+min n2 n<=c)(a:∀j,j<min n2 n->z (o2+j)≠ .undef)(k):
  cpw 1 (.sl i o n cp) (.sl L o2 n2 cp2) (.fn f m) k=k (.ik .i64 (min n2 n:Nat)) (.fn (bw f i (.row ty mm 0 w zs (.cf (laid o ((List.range' o2 (min n2 n)).map z) g)))) m):=by
 unfold cpw rA;rw[jt];unfold kp;rw[jt,LY,BO,show Nat.mul (min n2 n) 1=min n2 n from nV _,nE];show O.eO (f L) _=_;rw[h];show aR (Nat.ble (o2+min n2 n) c) (jg (.cf z) d (min n2 n) o2 _) false=_;rw[cw b,gV a];show eI i o ((List.range' o2 (min n2 n)).map z) (.fn f m) _=_;rw[kC];show O.eO (f i) _=_;rw[hf];show aR (Nat.ble (o+eK _) mm) _ false=_;rw[dx,dT,List.length_range',cw R];show aR (Nat.ble 0 o) _ false=_;rw[cw Z,gM];rfl
def a5m{l:ay}(h:∀u∈l,IsB u):∃s:aI,s.length=l.length/\(∀b∈s,b<256)/\∀k,rE l k=k s:=by
 induction l with
 |nil=>exact⟨[],rfl,G,λk=>rfl⟩
 |cons u l H=>
  obtain⟨s,A,N,M⟩:=H W;obtain⟨n,rfl,g⟩:=h u W;refine⟨n::s,W,λb a=>?_,λk=>?_⟩
  .grind
  .unfold rE;rw[ga];show aR (Nat.blt n 256) (rE l (λt=>k (n::t))) false=_;rw[show Nat.blt n 256=true from iJ g,sE,M]
def cvB(v:V)(h:Heap)(k:cR):Bool:=V.cK v (λi o n _=>fh i o n h (λa=>rE a (λs=>k (.str s) h))) (k (.str []) h) false
@[congr] theorem aw5{v:V}(k)(A:v=N)(M:h=h'):cvB v h k=cvB N h' k:=W
def ajB(x:Operand):fy:=⟨λ_ e h k=>cvB ((ax x).get e) h k⟩
@[go_sem ↓]def arp(x:Operand)(R e h k):(ajB x).run R e h k=cvB ((ax x).get e) h k:=G
@[go_sem ↓]def aw4(x:Operand):oF K 25 9 x=ajB x:=G
def a9a{o n:Nat}{cp:Cp}{w:Bool}(hf:f i= .row ty mm fz w zs (.cf g))(R:o+n<=mm)(a:∀j,j<n->IsB (g (o+j))):
  ∃s:aI,s.length=n/\(∀b∈s,b<256)/\∀k:cR,cvB (.sl i o n cp) (.fn f m) k=k (.str s) (.fn f m):=by
 obtain⟨s,A,N,M⟩:=a5m (l:=(List.range' o n).map g) (λu L=>by obtain⟨x,S,rfl⟩:=fA.1 L;obtain⟨j,z,rfl⟩:=List.mem_range'.1 S;grind);refine⟨s,W,N,λk=>?_⟩;unfold cvB;rw[jt,nE];show O.eO (f i) _=_;rw[hf];show aR (Nat.ble (o+n) mm) (jg (.cf g) zs n o _) false=_;rw[cw R,gV (λj z=>(a j z).ne),M]
section
variable {own:aG} {c:Nat} {f:av} {m aF1 sz:Nat} {a:a0x}
def MO(H:hJ own c f m aF1 sz a)(R:Rt)(L:Nat)(k):R.Y.call 488 [.ptr aF1 0] (.fn f L) k=k (Q sz) (.fn f L):=by have q:=H.aB.obj;refine cUx func488 ?_;exact zC
@[grind →] theorem hJ.gr{L:Nat}(h:hJ own c f m aF1 sz a)(q:B f m y L):hJ own c y L aF1 sz a:=⟨h.aB.gr q,h.aM.gr q,h.wf,h.rw,h.s1,h.s2⟩
def SG(sz:Nat)(p n:Int):Bool:=decide (0<=p)&&decide (0<=n)&&decide (p+n<=sz)
def nO(H:hJ own c f m aF1 sz a)(p n:Int)(R:Rt)(F)(j:F aF1=f aF1)(L:Nat)(k):R.Y.call 374 [.ptr aF1 0,Q p,Q n] (.fn F L) k=k (Q (if SG sz p n=true then 0 else 15)) (.fn F L):=by
 have q:=H.aB.obj;rw[←j] at q;have z:=H.s2;unfold SG;by_cases c1:p<0
 .rw [aj W];refine cUx func374 ?_;simp only[go_sem,q,c1]
 .by_cases c2:n<0
  .rw [aj W];refine cUx func374 ?_;simp only[go_sem,q,c1,c2]
  .by_cases c3:(sz:Int)<p
   .rw [aj W];refine cUx func374 ?_;simp only[go_sem,q,c1,c2,c3]
   .have N:IntKind.i64.wrap ((sz:Int)-p)=sz-p:=cB Z;by_cases c4:(sz:Int)-p<n
    .rw [aj W];refine cUx func374 ?_;simp only[go_sem,q,c1,c2,c3,N,c4]
    .rw [ao W];refine cUx func374 ?_;simp only[go_sem,q,c1,c2,c3,N,c4]
def RG{R:Rt}{b n:Nat}{s:aI}(v:f b= .row 9 1 0 true [.str []] (.cf (bI [.str s])))(r:b<m)(d:own b≠c)(w:∀b∈s,b<256)(hn:n<=s.length):aen R.Y own c f m n 376 [.ptr b 0]:=by
 intro F M i o q j g N C u t L z p k S E;have e:F b= .row 9 1 0 true [.str []] (.cf (bI [.str s])):=by rw[N.ah b r d];exact v
 have a:=λq=>a54 (s:=s) (l:=j) Z q;have A:=λM k=>a9c (m:=M) (cp:=.known (64-o)) (s:=s.drop j) t (o:=o) (n:=q) L k;have c1:(0:Int)<=(j:Nat):=Z;show R.Y.call 376 [.sl i o q (.known (64-o)),Q j,.ptr b 0] _ _=_;refine cUx func376 ?_;refine zS ?_;refine E _ _ _ ⟨laid o (UW ((s.drop j).take q)) g,rfl,rfl,λx H=>?_⟩;by_cases h:o<=x/\x<o+(UW ((s.drop j).take q)).length
 .rw [du h.1 h.2,dH Z];unfold UW;rw[rW];exact⟨_,rfl,w _ W⟩
 .rw [dL h];grind
def a0d{R:Rt}(H:hJ own c f m aF1 sz a)(C:∀x,m<=x->own x=0)(hc:c≠0)(h:c≠9)(p:Int)(s)(i:∀b∈s,b<256)(hl:s.length<=9223372036854775807):
  Cl R.Y.Y.Y 321 [.ptr aF1 0,Q p,.str s] f m (λv y L=>v=Q (if SG sz p s.length=true then 0 else 15)/\(∃a',hJ own c y L aF1 sz a')/\Fr (· =c) own f m own y L):=by
 intro k S E;have u:aF1≠m:=I9;have P:=λq=>Aj (s:=s) hl q;have g:B f m (bw f m (.row 9 1 0 true [.str []] (.cf (bI [.str s])))) (pl m 1):=(B.w (m2:=m) Qc E1);have n:=g.fr own (· =c);have o:own m=0:=W;by_cases d:SG sz p s.length=true
 .have N:=λR F (e:F aF1=f aF1) M k=>(nO H p s.length R F e M k).trans Zz;unfold SG at d;simp only[lF,uI] at d;obtain⟨x,rfl⟩:∃x:Nat,p=x:=⟨p.toNat,Z⟩;refine cUx func321 ?_;simp only[go_sem,N,u,P, ↓ag 375];apply(UX (H.gr g) hc h x s.length 376 [.ptr m 0] Z G (RG (aK ..) W Z i Z)).bu;rintro v r l ⟨A,j⟩;refine zS ?_;rw[ao (by unfold SG;grind)] at E;exact E _ _ _ ⟨rfl,A,n.trans j Z Z⟩
 .have N:=λR F (e:F aF1=f aF1) M k=>(nO H p s.length R F e M k).trans Qa;refine cUx func321 ?_;refine zS ?_;rw[aj d] at E;exact E _ _ _ ⟨rfl,⟨a,H.gr g⟩,n⟩
end
@[go_sem ↓]def axG(e):(ax (.const (.string {data:=#[]}))).get e= .str []:=G
def clW(v:V)(h:Heap)(k:cR):Bool:=V.cK v (λi o n _=>bQ (py [.ik .u8 0] (Nat.mul n 1)) [] (λH=>eI i o H h (λh=>k cA h))) (k cA h) false
@[congr] theorem awf{v:V}(k)(A:v=N)(M:h=h'):clW v h k=clW N h' k:=W
def ajJ(x:Operand):fy:=⟨λ_ e h k=>clW ((ax x).get e) h k⟩
@[go_sem ↓]def arB(x:Operand)(R e h k):(ajJ x).run R e h k=clW ((ax x).get e) h k:=G
@[go_sem ↓]def clZ(x:Operand):aV K .clear [25] [x]=ajJ x:=G
def a9h{o n:Nat}{cp:Cp}{w:Bool}(hf:f i= .row ty mm 0 w zs (.cf g))(R:o+n<=mm)(k):
  clW (.sl i o n cp) (.fn f m) k=k cA (.fn (bw f i (.row ty mm 0 w zs (.cf (laid o (List.replicate n (.ik .u8 0)) g)))) m):=by
 unfold clW;rw[jt,show Nat.mul n 1=n from nV n,pL,bB,j9,kC];show O.eO (f i) _=_;rw[hf];show aR (Nat.ble (o+eK _) mm) _ false=_;rw[dx,a1f,cw R];show aR (Nat.ble 0 o) _ false=_;rw[cw Z,gM];rfl
section
variable {own:aG} {c:Nat} {f:av} {m aF1 sz:Nat} {a:a0x}
def ZE{R:Rt}{n:Nat}:aen R.Y own c f m n 495 []:=by
 intro F M i o q j g N b u t L z p k S E;have e:=λM k=>a9h (m:=M) (cp:=.known (64-o)) t (o:=o) (n:=q) L k;show R.Y.call 495 [.sl i o q (.known (64-o)),Q j] _ _=_;refine cUx func495 ?_;simp only[go_sem, ↓clZ,e];refine E _ _ _ ⟨laid o (List.replicate q (.ik .u8 0)) g,rfl,rfl,λx d=>?_⟩;by_cases h:o<=x/\x<o+(List.replicate q (V.ik .u8 0)).length
 .rw [du h.1 h.2,dH Z,Ob];exact⟨0,rfl,I⟩
 .rw [dL h];grind
def a5n{R:Rt}(H:hJ own c f m aF1 sz a)(hc:c≠0)(h:c≠9)(p n:Int):
  Cl R.Y.Y.Y 491 [.ptr aF1 0,Q p,Q n] f m (λv b L=>v=Q (if SG sz p n=true then 0 else 15)/\(∃a',hJ own c b L aF1 sz a')/\Fr (· =c) own f m own b L):=by
 intro k S E;by_cases d:SG sz p n=true
 .have N:=λR F (e:F aF1=f aF1) M k=>(nO H p n R F e M k).trans Zz;unfold SG at d;simp only[lF,uI] at d;obtain⟨x,rfl⟩:∃x:Nat,p=x:=⟨p.toNat,Z⟩;obtain⟨y,rfl⟩:∃y:Nat,n=y:=⟨n.toNat,Z⟩;refine cUx func491 ?_;simp only[go_sem,N, ↓ag 375];apply(UX H hc h x y 495 [] Z G ZE).bu;rintro v r l ⟨A,P⟩;refine zS ?_;rw[ao (by unfold SG;grind)] at E;grind
 .have N:=λR F (e:F aF1=f aF1) M k=>(nO H p n R F e M k).trans Qa;refine cUx func491 ?_;refine zS ?_;rw[aj d] at E;exact E _ _ _ ⟨rfl,W,Fr.refl _ _ _ _⟩
def a9l(own)(c:Nat)(f)(m:Nat)(R:Rt)(n:Nat)(A:1<=n)(N:n<=65536):
  Cl R.Y 389 [Q n] f m (λv y L=>∃aF1 t a,v= .ptr aF1 0/\hJ t c y L aF1 n a/\Fr (λ_=>False) own f m t y L):=by
 intro k S E;have c1:¬(n:Int)<1:=Z;have c2:¬(1048576:Int)<n:=Z;refine cUx func389 ?_;refine zS ?_;refine fG ?_;intro F j;have p:Fr (λ_=>False) own f m (cm own m [c,9]) F (pl m 2):=by refine Fr.cm (P:=λ_=>False) ?_ (bP _);rw[j];exact B.fr (B.w (m2:=m) Qd E1) _ _
 exact E _ _ _ ⟨pl m 1,_,⟨m,[],0⟩,rfl,⟨gh J3 rfl (bP _),ez Y0 rfl (bP _),Wf.nil _,λx v h=>Q8,A,N⟩,p⟩
def a5o{R:Rt}(H:hJ own c f m aF1 sz a)(p n:Int):
  Cl R.Y.Y 322 [.ptr aF1 0,Q p,Q n] f m (λv f' m'=>B f m f' m'/\if SG sz p n=true then ∃s:aI,v= .cI [.str s,Q 0]/\(s.length:Int)=n/\(∀b∈s,b<256) else v= .cI [.str [],Q 15]):=by
 intro k T hk;have hB:=H.aB.obj;have z:=H.s2;by_cases d:SG sz p n=true
 .have hck:=λR F (e:F aF1=f aF1) M k=>(nO H p n R F e M k).trans Zz;simp only[ao d] at hk;unfold SG at d;simp only[lF,uI] at d;obtain⟨x,rfl⟩:∃x:Nat,p=x:=⟨p.toNat,Z⟩;obtain⟨y,rfl⟩:∃y:Nat,n=y:=⟨n.toNat,Z⟩;have d1:y<=4294967296:=Z;have d2:1*y<=281474976710656:=Z;have d3:(0:Int)<=(y:Nat):=Z;have e1:aF1≠m:=I9;refine cUx func322 ?_;refine zS ?_;refine cU (x:=.exit 0) (n:=y) (aF0:=λr e f' m'=>∃(j:Nat) (g:dA),j+r=y/\(eg 0).get e= .ptr aF1 0/\(eg 1).get e=Q x/\(eg 2).get e=Q y/\(eg 9).get e= .sl m 0 y (.known y)/\(eg 10).get e=Q j/\f' m= .row 5 y 0 true [.ik .u8 0] (.cf g)/\(∀x,x<y->IsB (g x))/\B f m f' m'/\m<m')
   (E:=λe f' m'=>∃(g:dA),(eg 9).get e= .sl m 0 y (.known y)/\f' m= .row 5 y 0 true [.ik .u8 0] (.cf g)/\(∀x,x<y->IsB (g x))/\B f m f' m'/\m<m') ?_ J2 ?_ ?_
  .exact ⟨0,_,Z,E6,E6,E6,E6,E6,T9,λx S=>by rw[nU];exact⟨0,rfl,I⟩,(B.w (m2:=m) Qc E1),W⟩
  .rintro r e f1 m1 ⟨j,g,hjr,e0,e2,e3,N,e10,ny,QV,P,Ur⟩ rr kx hr hE;unfold iB;by_cases mO:j<y
   .have c1:(j:Int)<y:=by omega
    have A:=H.gr P;have hB:=A.aB.obj;have hM:=A.aM.obj;have ew:IntKind.i64.wrap ((x:Int)+j)=((x+j:Nat):Int):=Qf;have e5:aF1≠m1:=Jt;have e6:a.M≠m1:=by have:=A.aM.lt;omega
    have e7:m≠m1:=Z;obtain⟨aEY,hK⟩:∃aEY,aEY=IntKind.i64.wrap (((x+j:Nat):Int).tdiv 64):=W;obtain⟨s,hs⟩:∃s,s=(x+j)%64:=W;have ap5:s<64:=Z;have er:((x+j:Nat):Int).tmod 64=(s:Nat):=by rw[hs];rfl
    obtain⟨q,hq⟩:∃q,q=min (64-s) (y-j):=W;have hq1:1<=q:=Z;have ew5:IntKind.i64.wrap ((j:Int)+(q:Int))=((j+q:Nat):Int):=Qf;have c2:(0:Int)<=(s:Nat):=Z;have c3:(0:Int)<=(j:Nat):=Z;have c4:s<=64:=Z;have c5:j<=y:=Z;have HE:rz 64 s 0 1=s:=Vi;have aiB:rz y j 0 1=j:=Vi;obtain⟨L,hL,ad8,hLb⟩:a5S ((cC a.l aEY).getD (.agg z64)):=by
     cases S:cC a.l aEY with
     |none=>exact⟨z64,rfl,FW,a1l⟩
     |some v=>exact A.rw _ _ S
    have Nz:=λF M k=>Th (f:=bw F m1 (.row 543 64 0 true z64 (.cf (zf z64)))) (m:=M) (i:=m1) (t:=543) (zs:=z64) (l:=L) (g:=zf z64) (w:=true) (hf:=aK ..) (hl:=ad8) (k:=k);have hlb:∀x,x<64->IsB (laid 0 L (zf z64) x):=λx S=>by rw[QH Z,dH Z];grind
    have hcp:=λ(F:av) M k (h1:F m= .row 5 y 0 true [.ik .u8 0] (.cf g)) (h2:F m1= .row 543 64 0 true z64 (.cf (laid 0 L (zf z64))))=>UR (f:=F) (m:=M) (o:=j) (o2:=s) (n:=y-j) (n2:=64-s) (cp:=.known (y-j)) (cp2:=.known (64-s)) h1 h2 Z Z (λx S=>(hlb _ Z).ne) k;rw[←hq] at hcp;simp only[go_sem, ↓lkZ, ↓alZ, ↓sZ, ↓bdZ,e0,e2,e3,N,e10,c1,ew,hB,hM,e7,←hK,er,c2,c3,c4,c5,iI,HE,aiB,hL,Nz,ny,hcp,ew5];refine hr (r-q) _ _ _ Z ⟨j+q,laid j ((List.range' s q).map (laid 0 L (zf z64))) g,Z,E6,E6,E6,E6,E6,aK ..,λu hu=>?_,(P.new.bw (x:=m1) Z).bw (x:=m) Z,W⟩;by_cases h:j<=u/\u<j+((List.range' s q).map (laid 0 L (zf z64))).length
    .rw [du h.1 h.2,dH Z,rW,AD,Nat.one_mul];grind
    .rw [dL h];grind
   .have c1:¬(j:Int)<y:=by omega
    refine zS ?_;exact hE _ _ _ ⟨g,N,ny,QV,P,Ur⟩
  .rintro e f' m' ⟨g,N,ny,QV,q,hm⟩;obtain⟨s,hs1,z,hs3⟩:=a9a (m:=m') (cp:=.known y) ny (o:=0) (n:=y) Z W;refine zS ?_;grind
 .have hck:=λR F (e:F aF1=f aF1) M k=>(nO H p n R F e M k).trans Qa;simp only[aj d] at hk;refine cUx func322 ?_;refine zS ?_;exact hk _ _ _ ⟨B.refl _ _,rfl⟩
end
end
end Go.Ev.Sy
namespace Go.Ev.Sy
section
def up{α:Type}(f:Int->α)(i:Int)(x:α):Int->α:=λk=>if k=i then x else f k
def pH{α:Type}(f:Int->α)(i:Int)(x:α)(k:Int):up f i x k=if k=i then x else f k:=rfl
def wW(P:Int->Int):Nat->Int->Int
 |0,_=>0
 |n+1,j=>wW P n j+if P n=j then 1 else 0
structure Lk(N L:Int)(aF1 X P F A:Int->Int)(t:Int->Nat):Prop where
 pr:∀k,0<=k->k<N->P k<L
 b0:∀k,0<=k->k<N->0<=P k->aF1 k<0->F (P k)=k
 b1:∀k,0<=k->k<N->0<=P k->0<=aF1 k->aF1 k<N/\P (aF1 k)=P k/\X (aF1 k)=k/\t (aF1 k)<t k
 x0:∀k,0<=k->k<N->0<=P k->X k<0->A (P k)=k
 x1:∀k,0<=k->k<N->0<=P k->0<=X k->X k<N/\P (X k)=P k/\aF1 (X k)=k
 f1:∀j,0<=j->j<L->0<=F j->F j<N/\P (F j)=j/\aF1 (F j)<0
 a1:∀j,0<=j->j<L->0<=A j->A j<N/\P (A j)=j/\X (A j)<0
 fa:∀k,0<=k->k<N->0<=P k->0<=F (P k)/\0<=A (P k)
variable {N L:Int} {aF1 X P F A:Int->Int} {t:Int->Nat}
set_option maxHeartbeats 1000000 in
def Lk.add(h:Lk N L aF1 X P F A t){j n:Int}{T:Nat}(b:0<=j)(f:j<L)(p:0<=n)(d:n<N)(g:P n<0)(m:∀k,t k<T):
  Lk N L (up aF1 n (A j)) (if 0<=A j then up (up X n (-1)) (A j) n else up X n (-1)) (up P n j) (if 0<=A j then F else up F j n) (up A j n) (up t n T):=by
 obtain⟨e,o,H,a,q,r,l,i⟩:=h;by_cases c:0<=A j
 .have:=l j b f c;simp only[ao c];constructor<;>simp only[pH]
  .grind
  .grind
  .grind
  .grind
  .grind
  .grind
  .grind
  grind
 .simp only[aj c];constructor<;>simp only[pH]
  .grind
  .grind
  .grind
  .grind
  .grind
  .grind
  .grind
  grind
def Lk.only(h:Lk N L aF1 X P F A t){n:Int}(i:0<=n)(d:n<N)(g:0<=P n)(s:aF1 n<0)(S:X n<0):∀(m:Nat) (k:Int),t k<m->0<=k->k<N->P k=P n->k=n
 |0,_,R,_,_,_=>G
 |m+1,k,R,a,v,E=>by
  rcases qo (aF1 k) 0 with b|b
  .have:=h.b0 k a v Z b;have:=h.b0 n i d g s;grind
  .obtain ⟨c,M,u,r⟩:=h.b1 k a v Z b;have:=h.only i d g s S m (aF1 k) Z b c Z;grind
set_option maxHeartbeats 4000000 in
def Lk.drop(h:Lk N L aF1 X P F A t){n:Int}(i:0<=n)(d:n<N)(g:0<=P n):
  Lk N L (up (if 0<=X n then up aF1 (X n) (aF1 n) else aF1) n (-1)) (up (if 0<=aF1 n then up X (aF1 n) (X n) else X) n (-1)) (up P n (-1)) (if 0<=aF1 n then F else up F (P n) (X n)) (if 0<=X n then A else up A (P n) (aF1 n)) t:=by
 have b:aF1 n<0->X n<0->∀k,0<=k->k<N->P k=P n->k=n:=λc f k M u r=>h.only i d g c f _ k (xu _) M u r;obtain⟨p,o,H,a,e,l,j,m⟩:=h;by_cases q:0<=aF1 n<;>by_cases w:0<=X n<;>simp only[ao,q,w,if_false]
 .clear b;have:=H n i d g q;have:=e n i d g w;constructor<;>simp only[pH]<;>grind
 .clear b;have:=H n i d g q;constructor<;>simp only[pH]<;>grind
 .clear b;have:=e n i d g w;constructor<;>simp only[pH]<;>grind
 .have b:=b Z Z;constructor<;>simp only[pH]<;>grind
end
section
inductive Wk (F X:Int->Int):Int->List (Int×Bool)->Prop
 |nil {c:Int}:c<0->Wk F X c []
 |node {c:Int} {l r:List (Int×Bool)}:0<=c->Wk F X (F c) l->Wk F X (X c) r->Wk F X c ((c,true)::(l++(c,false)::r))
def jQ(b:Bool)(l:List (Int×Bool)):List Int:=(l.filter (λe=>e.2==b)).map Prod.fst
def a7v(b:Bool)(l r:List (Int×Bool)):jQ b (l++r)=jQ b l++jQ b r:=Zp
def mY(c:Int)(l r:List (Int×Bool)):jQ true ((c,true)::(l++(c,false)::r))=c::(jQ true l++jQ true r):=Zp
def sm(c:Int)(l r:List (Int×Bool)):jQ false ((c,true)::(l++(c,false)::r))=jQ false l++c::jQ false r:=Zp
structure Fo(N:Int)(aF1 X P F A:Int->Int)(t:Int->Nat):Prop where
 k:Lk N (N+1) aF1 X P F A t
 par:∀k,0<=k->k<N->0<=P k->P k<N->0<=P (P k)/\t (P k)<t k
variable {N:Int} {aF1 X P F A:Int->Int} {t:Int->Nat}
def Nd(N:Int)(P:Int->Int)(k:Int):Prop:=0<=k/\k<N/\0<=P k
def Fo.nx(h:Fo N aF1 X P F A t){k:Int}(E:Nd N P k)(S:0<=X k):Nd N P (X k)/\P (X k)=P k/\t k<t (X k)/\aF1 (X k)=k:=by obtain⟨s,d,e⟩:=E;obtain⟨a,b,c⟩:=h.k.x1 k s d e S;have:=(h.k.b1 (X k) S a Z Z).2.2.2;rw[c] at this;exact⟨⟨S,a,Z⟩,b,this,c⟩
def Fo.fi(h:Fo N aF1 X P F A t){k:Int}(E:Nd N P k)(S:0<=F k):Nd N P (F k)/\P (F k)=k/\t k<t (F k)/\aF1 (F k)<0:=by obtain⟨s,d,e⟩:=E;obtain⟨a,b,c⟩:=h.k.f1 k s Z S;have M:Nd N P (F k):=⟨S,a,Z⟩;have:=(h.par (F k) S a Z Z).2;grind
def Fo.wk(h:Fo N aF1 X P F A t)(T:Nat)(v:∀k,Nd N P k->t k<T):∀(m:Nat) (c:Int),T-t c<m->(0<=c->Nd N P c)->∃l,Wk F X c l
 |0,_,R,_=>G
 |m+1,c,R,b=>by
  rcases qo c 0 with a|a
  .exact ⟨[],.nil a⟩
  .have g:=b a;have f:=v c g;obtain⟨l,e⟩:∃l,Wk F X (F c) l:=by
    rcases qo (F c) 0 with M|M
    .exact ⟨[],.nil M⟩
    .obtain ⟨s,z,o,_⟩:=h.fi g M;exact h.wk T v m (F c) Z (λ_=>s)
   obtain⟨r,d⟩:∃l,Wk F X (X c) l:=by
    rcases qo (X c) 0 with M|M
    .exact ⟨[],.nil M⟩
    .obtain ⟨s,z,o,_⟩:=h.nx g M;exact h.wk T v m (X c) Z (λ_=>s)
   exact⟨_,.node a e d⟩
def Fo.all(h:Fo N aF1 X P F A t){M:Int->Prop}(e:∀k,Nd N P k->M (P k)->M k){c:Int}{l:List (Int×Bool)}(w:Wk F X c l):(0<=c->Nd N P c/\M (P c))->∀b,∀z∈jQ b l,Nd N P z/\M z:=by
 induction w with
 |nil _=>intro _ b z C;trivial
 |@node c l r s E u n L=>
  intro f b;obtain⟨g,R⟩:=f s;have d:=e c g R;have i:=n (λH=>by obtain⟨a,b,_⟩:=h.fi g H;grind) b;have j:=L (λH=>Jq) b;intro z C;have:z=c\/z∈jQ b l\/z∈jQ b r:=by
   cases b
   .rw [sm] at C;grind
   .rw [mY] at C;grind
  grind
def Wk.mem{c:Int}{l:List (Int×Bool)}(w:Wk F X c l)(z:Int):z∈jQ true l↔z∈jQ false l:=by
 induction w with
 |nil _=>trivial
 |node s E u n L=>rw[mY,sm];grind
def Wk.cls{c:Int}{l:List (Int×Bool)}(w:Wk F X c l):∀z∈jQ true l,(0<=X z->X z∈jQ true l)/\(0<=F z->F z∈jQ true l):=by
 have f:∀{c:Int} {l:List (Int×Bool)},Wk F X c l->0<=c->c∈jQ true l:=λw h=>by cases w with
  |nil _=>omega
  |node=>rw[mY];simp
 induction w with
 |nil _=>intro z C;trivial
 |@node c l r s E u n L=>intro z C;rw[mY] at C ⊢;grind
def Fo.kids(h:Fo N aF1 X P F A t){c:Int}(hc:Nd N P c){l:List (Int×Bool)}(w:Wk F X (F c) l):∀(m:Nat) (j:Int),t j<m->Nd N P j->P j=c->j∈jQ true l
 |0,_,R,_,_=>G
 |m+1,j,R,z,hp=>by
  rcases qo (aF1 j) 0 with a|a
  .have:=h.k.b0 j z.1 z.2.1 z.2.2 a;rw[hp] at this;cases w with
   |nil d=>have:=z.1;omega
   |node=>rw[mY,this];simp
  .obtain ⟨s,b,o,q⟩:=h.k.b1 j z.1 z.2.1 z.2.2 a;have:=h.kids hc w m (aF1 j) Z ⟨a,s,by have:=z.2.2;omega⟩ Z;have:=(w.cls _ this).1 (by have:=z.1;omega);grind
def Gd(N:Int)(P:Int->Int)(D:Int->Prop):List Int->Prop
 |[]=>True
 |k::b=>(∀j,Nd N P j->P j=k->D j)/\Gd N P (λz=>D z\/z=k) b
def Gd.mono:∀{l:List Int} {D E:Int->Prop},Gd N P D l->(∀z,D z->E z)->Gd N P E l
 |[],_,_,_,_=>trivial
 |_::_,_,_,h,g=>⟨λj a b=>g j (h.1 j a b),h.2.mono W⟩
def Gd.app:∀{l r:List Int} {D:Int->Prop},Gd N P D l->Gd N P (λz=>D z\/z∈l) r->Gd N P D (l++r)
 |[],_,_,_,h=>h.mono W
 |k::l,r,D,h,g=>⟨h.1,h.2.app W⟩
def Fo.gd(h:Fo N aF1 X P F A t){c:Int}{l:List (Int×Bool)}(w:Wk F X c l):(0<=c->Nd N P c)->∀D,Gd N P D (jQ false l):=by
 induction w with
 |nil _=>intro _ D;trivial
 |@node c l r s E u n L=>intro a D;have g:=a s;rw[sm];refine(n (λH=>(h.fi g H).1) D).app ⟨λj z b=>.inr ((E.mem j).1 (h.kids g E _ j (xu _) z b)),L (λH=>(h.nx g H).1) _⟩
def Fo.pred(h:Fo N aF1 X P F A t){c:Int}{l:List (Int×Bool)}(w:Wk F X c l):(0<=c->Nd N P c/\P c<N)->∀z∈jQ true l,Nd N P z/\P z<N/\t c<=t z/\(z=c\/(if 0<=aF1 z then aF1 z else P z)∈jQ true l):=by
 induction w with
 |nil _=>intro _ z C;trivial
 |@node c l r j E u n L=>
  intro k z C;obtain⟨g,m⟩:=k j;rw[mY] at C ⊢;simp only[fY,fJ] at C ⊢;rcases C with rfl|i|i
  .grind
  .have H:0<=F c:=by
    cases E with
    |nil=>trivial
    |node h=>exact h
   obtain⟨s,f,o,q⟩:=h.fi g H;obtain⟨a,e,b,d⟩:=n (λ_=>⟨s,by rw[f];exact g.2.1⟩) z i;grind
  .have H:0<=X c:=by
    cases u with
    |nil=>trivial
    |node h=>exact h
   obtain⟨s,f,o,q⟩:=h.nx g H;grind
def Fo.prt(h:Fo N aF1 X P F A t){z:Int}(C:Nd N P z)(d:P z<N):t (if 0<=aF1 z then aF1 z else P z)<t z:=by
 obtain⟨s,a,b⟩:=C;split
 .rename_i M;exact(h.k.b1 z s a b M).2.2.2
 .exact (h.par z s a b d).2
def Fo.nod(h:Fo N aF1 X P F A t){c:Int}{l:List (Int×Bool)}(w:Wk F X c l):(0<=c->Nd N P c/\P c<N)->(jQ true l).Nodup:=by
 induction w with
 |nil _=>intro _;trivial
 |@node c l r s E u n L=>
  intro hc;obtain⟨g,hr⟩:=hc s;rw[mY];have d:0<=F c->Nd N P (F c)/\P (F c)<N:=λH=>by obtain⟨a,b,_⟩:=h.fi g H;exact⟨a,by rw[b];exact g.2.1⟩
  have q:0<=X c->Nd N P (X c)/\P (X c)<N:=λH=>Jq;have v:=h.pred E d;have p2:=h.pred u q;have o:∀z∈jQ true l,0<=F c:=λz C=>by cases E with
   |nil=>trivial
   |node h=>exact h
  have e2:∀z∈jQ true r,0<=X c:=λz C=>by cases u with
   |nil=>trivial
   |node h=>exact h
  have c1:c∉jQ true l:=λC=>by have:=(v c C).2.2.1;have:=(h.fi g (o c C)).2.2.1;omega
  have c2:c∉jQ true r:=λC=>by have:=(p2 c C).2.2.1;have:=(h.nx g (e2 c C)).2.2.1;omega
  have f:∀(m:Nat) (z:Int),t z<m->z∈jQ true l->z∈jQ true r->False:=by
   intro m
   induction m with
   |zero=>omega
   |succ m ih=>intro z R j z2;obtain⟨k,i,_,M⟩:=v z j;obtain⟨_,_,_,a5⟩:=p2 z z2;obtain⟨_,f2,_,f4⟩:=h.fi g W;obtain⟨_,_,_,x4⟩:=h.nx g W;have:=h.prt k i;grind
  rw[iK,jS];refine⟨W,W,W,λx S y p e=>?_⟩;subst e;exact f _ x (xu _) S p
def Fo.add(h:Fo N aF1 X P F A t){j n:Int}{T:Nat}(z:j=N\/Nd N P j)(i:0<=n)(d:n<N)(g:P n<0)(o:∀k,t k<T):
  Fo N (up aF1 n (A j)) (if 0<=A j then up (up X n (-1)) (A j) n else up X n (-1)) (up P n j) (if 0<=A j then F else up F j n) (up A j n) (up t n T):=by
 refine⟨h.k.add (by rcases z with c|c;omega;exact c.1) (by rcases z with c|c;omega;have:=c.2.1;omega) i d g o,λk a v s p=>?_⟩;have L:=h.par k a v;have u:up P n j k=if k=n then j else P k:=rfl
 have b:∀x,up P n j x=if x=n then j else P x:=λ_=>rfl
 have f:∀x,up t n T x=if x=n then T else t x:=λ_=>rfl
 rw[u] at s p;by_cases e:k=n
 .rw [ao e] at u s p;rw[u];rcases z with rfl|c
  .omega
  .have:j≠n:=λe=>by rw[e] at c;have:=c.2.2;omega
   rw[b,f,f,aj this,aj this,ao e];exact⟨c.2.2,W⟩
 grind
def Fo.drop(h:Fo N aF1 X P F A t){n:Int}(hn:Nd N P n)(E:∀j,Nd N P j->P j≠n):
  Fo N (up (if 0<=X n then up aF1 (X n) (aF1 n) else aF1) n (-1)) (up (if 0<=aF1 n then up X (aF1 n) (X n) else X) n (-1)) (up P n (-1)) (if 0<=aF1 n then F else up F (P n) (X n)) (if 0<=X n then A else up A (P n) (aF1 n)) t:=by
 refine⟨h.k.drop hn.1 hn.2.1 hn.2.2,λk a v s p=>?_⟩;have L:=h.par k a v;have b:∀x,up P n (-1) x=if x=n then -1 else P x:=λ_=>rfl
 by_cases e:k=n
 .grind
 .have u:up P n (-1) k=P k:=by rw[b,aj e]
  rw[u] at s p ⊢;rw[b,aj (E k G)];omega
def Ik(P)(m v:Int)(j:Int):∀n:Nat,wW (up P m v) n j=wW P n j+(if 0<=m/\m<n then(if v=j then 1 else 0)-(if P m=j then 1 else 0) else 0)
 |0=>by simp[wW];omega
 |n+1=>by unfold wW;rw[Ik P m v j n,pH];grind
def wV(P)(j:Int):∀n:Nat,0<=wW P n j/\wW P n j<=n/\(0<wW P n j↔∃k:Int,0<=k/\k<n/\P k=j)
 |0=>⟨AH _,AH _,⟨λh=>G,Z⟩⟩
 |n+1=>by obtain⟨a,b,c⟩:=wV P j n;unfold wW;grind
end
end Go.Ev.Sy
