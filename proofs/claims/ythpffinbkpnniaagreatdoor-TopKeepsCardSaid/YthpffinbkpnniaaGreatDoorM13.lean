import Derived.Test.YthpffinbkpnniaaGreatDoorM12
set_option linter.all false
set_option maxRecDepth 100000
namespace Go.Ev.Sy
open Go Go.Ev Go.Proofs
open Tryz
noncomputable section
variable{y:av}
def zn(g:dc)(i:Nat)(a b c:Int):dc:=λj=>if j=i then a else if j=i+1 then b else if j=i+2 then c else g j
def a3O(g)(i:Nat)(a b c:Int):laid i [Q a,Q b,Q c] (λj=>Q (g j))=λj=>Q (zn g i a b c j):=by
 funext j;unfold zn;by_cases s:j=i
 .subst s;rw[ao rfl,du Z J1,mH];rfl
 .rw [aj s];by_cases A:j=i+1
  .subst A;rw[ao rfl,du Z J1,show i+1-i=1 by omega];rfl
  .rw [aj A];by_cases N:j=i+2
   .subst N;rw[ao rfl,du Z J1,show i+2-i=2 by omega];rfl
   .rw [aj N,dL W]
@[grind cases] structure kB(own:aG)(c:Nat)(f:av)(m C N L nr lr:Nat)(gi li:dc):Prop where
 aC:At own c f m C (.row 373 2 0 true [.au] (.cf (bI [.sl nr 0 N (.known N),.sl lr 0 L (.known L)])))
 an:At own c f m nr (.row 378 (N*3) 0 true [Q (-1),Q (-1),Q (-1)] (.cf (λi=>Q (gi i))))
 al:At own c f m lr (.row 380 (L*3) 0 true [Q (-1),Q (-1),Q 0] (.cf (λi=>Q (li i))))
 n1:N<=20000
 l1:L<=20000
section
variable {own:aG} {c:Nat} {f:av} {m C N L nr lr:Nat} {gi li:dc}
def kB.ah{P:dF}{t:aG}{a:Nat}(h:kB own c f m C N L nr lr gi li)(q:Fr P own f m t y a)(g:¬P c):kB t c y a C N L nr lr gi li:=
 ⟨h.aC.ah q g,h.an.ah q g,h.al.ah q g,h.n1,h.l1⟩
def tM(H:kB own c f m C N L nr lr gi li)(l:Nat)(hl:l<L)(R:Rt)(a:Nat)(k):R.Y.call 361 [.ptr C 0,Q l] (.fn f a) k=k (.bool true) (.fn f a):=by have E:=H.aC.obj;have w:L<=9223372036854775807:=L6;have c1:(l:Int)<L:=Z;refine cUx func361 ?_;exact zC
def wZ(H:kB own c f m C N L nr lr gi li)(l:Nat)(hl:l<N)(R:Rt)(a:Nat)(k):R.Y.call 362 [.ptr C 0,Q l] (.fn f a) k=k (.bool true) (.fn f a):=by have E:=H.aC.obj;have w:N<=9223372036854775807:=O8;have c1:(l:Int)<N:=Z;refine cUx func362 ?_;exact zC
def sK(H:kB own c f m C N L nr lr gi li)(l:Nat)(hl:l<L)(R:Rt)(a:Nat)(k):R.Y.Y.call 355 [.ptr C 0,Q l] (.fn f a) k=k (Q (li (l*3+1))) (.fn f a):=by have E:=H.aC.obj;have F:=H.al.obj;have g:=tM H l hl;have w:L<=9223372036854775807:=L6;have c1:l*3+1<L*3:=Z;refine cUx func355 ?_;exact zC
def CL(H:kB own c f m C N L nr lr gi li)(n:Nat)(hn:n<N)(R:Rt)(a:Nat)(k):R.Y.Y.call 364 [.ptr C 0,Q n] (.fn f a) k=k (Q (gi (n*3+2))) (.fn f a):=by have E:=H.aC.obj;have F:=H.an.obj;have g:=wZ H n hn;have w:N<=9223372036854775807:=O8;have c1:n*3+2<N*3:=Z;refine cUx func364 ?_;exact zC
def sT(gi li:dc)(l n:Nat):dc:=if 0<=li (l*3) then eH (zn gi (n*3) (li (l*3)) (-1) l) ((li (l*3)).toNat*3+1) n else zn gi (n*3) (li (l*3)) (-1) l
def vB(li:dc)(l n:Nat):dc:=eH (eH (if 0<=li (l*3) then li else eH li (l*3+1) n) (l*3) n) (l*3+2) (IntKind.i64.wrap (li (l*3+2)+1))
def Fq{R:Rt}(H:kB own c f m C N L nr lr gi li)(l n:Nat)(hl:l<L)(hn:n<N)(s:li (l*3)<N)(hf:gi (n*3+2)<0):
  Cl R.Y.Y 290 [.ptr C 0,Q l,Q n] f m (λv y d=>v= .bool true/\d=m/\kB own c y m C N L nr lr (sT gi li l n) (vB li l n)/\Fr (· =c) own f m own y m):=by
 intro k S a;have E:=H.aC.obj;have p:=H.an.obj;have g:=H.al.obj;have t:=tM H l hl;have i:=wZ H n hn;have x:N<=9223372036854775807:=O8;have l9:L<=9223372036854775807:=L6;have c1:n*3+2<N*3:=Z;have c2:n*3+3<=N*3:=Z;have c3:l*3<L*3:=Z;have c4:l*3+1<L*3:=Z;have M:l*3+2<L*3:=Z;have q:¬(0<=gi (n*3+2)):=Z;have u:C≠nr:=W;have b:C≠lr:=W;have A:nr≠lr:=W;by_cases e:0<=li (l*3)
 .have j:(li (l*3)).toNat<N:=by omega
  have o:(li (l*3)).toNat*3+1<N*3:=Z;refine cUx func290 ?_;simp only[go_sem,E,p,g,t,i,q,c1,c2,c3,M,j,o,hl,hn,e,u,A.symm,a3O,tb,yd];refine a _ _ _ ⟨rfl,rfl,⟨⟨X7,H.aC.own,H.aC.lt⟩,⟨?_,H.an.own,H.an.lt⟩,⟨?_,H.al.own,H.al.lt⟩,H.n1,H.l1⟩,(Fr.w (m2:=m) Vx Z)⟩
  .unfold sT;rw[ao e];exact zC
  .unfold vB;rw[ao e];exact aK ..
 .refine cUx func290 ?_;simp only[go_sem,E,p,g,t,i,q,c1,c2,c3,c4,M,hl,hn,e,A.symm,a3O,tb];refine a _ _ _ ⟨rfl,rfl,⟨⟨X7,H.aC.own,H.aC.lt⟩,⟨?_,H.an.own,H.an.lt⟩,⟨?_,H.al.own,H.al.lt⟩,H.n1,H.l1⟩,(Fr.w (m2:=m) Vx Z)⟩
  .unfold sT;rw[aj e];exact zC
  .unfold vB;rw[aj e,aK];rw[cJ Z]
def mV(gi:dc)(n:Nat):dc:=
 let b:=gi (n*3);let x:=gi (n*3+1)
 let s:=if 0<=b then eH gi (b.toNat*3+1) x else gi
 let z:=if 0<=x then eH s (x.toNat*3) b else s
 zn z (n*3) (-1) (-1) (-1)
def eR(gi li:dc)(n:Nat):dc:=
 let b:=gi (n*3);let x:=gi (n*3+1);let l:=(gi (n*3+2)).toNat
 let c:=if 0<=b then li else eH li (l*3+1) x
 let a:=if 0<=x then c else eH c (l*3) b
 eH a (l*3+2) (IntKind.i64.wrap (li (l*3+2)-1))
def CN{R:Rt}(H:kB own c f m C N L nr lr gi li)(n:Nat)(hn:n<N)(hl:gi (n*3+2)<L)(s:gi (n*3)<N)(hx:gi (n*3+1)<N)(h0:0<=gi (n*3+2)):
  Cl R.Y.Y.Y 294 [.ptr C 0,Q n] f m (λv y m'=>v= .bool true/\kB own c y m' C N L nr lr (mV gi n) (eR gi li n)/\Fr (· =c) own f m own y m'):=by
 intro k S hk;have E:=H.aC.obj;have p:=H.an.obj;have hh:=H.al.obj;have a1:=CL H n hn;have n9:N<=9223372036854775807:=O8;have l9:L<=9223372036854775807:=L6;obtain⟨l,P⟩:∃l:Nat,gi (n*3+2)=l:=⟨(gi (n*3+2)).toNat,Z⟩;have i:l<L:=Z;have q:¬((l:Int)<0):=Z;have c1:n*3<N*3:=Z;have c2:n*3+3<=N*3:=Z;have c3:l*3<L*3:=Z;have c4:l*3+1<L*3:=Z;have M:l*3+2<L*3:=Z;have u:C≠nr:=W;have e2:C≠lr:=W;have A:nr≠lr:=W;have e4:C≠m:=by have:=H.aC.lt;omega
 have r:nr≠m:=by have:=H.an.lt;omega
 have z:lr≠m:=by have:=H.al.lt;omega
 generalize hbb:gi (n*3)=b at *;generalize hxx:gi (n*3+1)=x at *;have j:0<=b->b.toNat*3+1<N*3:=Z;have o:0<=x->x.toNat*3<N*3:=Z;have t:0<=b->b.toNat<N:=Z;have c9:0<=x->x.toNat<N:=Z;by_cases e:0<=b<;>by_cases F:0<=x
 all_goals
  try have j:=j e
  try have o:=o F
  try have t:=t e
  try have c9:=c9 F
  refine cUx func294 ?_;simp only[go_sem,E,p,hh,a1,P,hbb,hxx,q,c2,c3,c4,M,j,o,t,c9,i,hn,e,F,u,e2,A,A.symm,e4,r,z,r.symm,z.symm,a3O,tb,yd];refine hk _ _ _ ⟨rfl,⟨⟨by simp only[go_sem,u,e2,e4];exact E,H.aC.own,by have:=H.aC.lt;unfold pl;omega⟩,⟨?_,H.an.own,by have:=H.an.lt;unfold pl;omega⟩,⟨?_,H.al.own,by have:=H.al.lt;unfold pl;omega⟩,H.n1,H.l1⟩,(Fr.w (m2:=m) Vx E1)⟩
  .simp only[mV,hbb,hxx,e,F,if_true,if_false,aK]
  .have f1:=λa=>cJ (f:=li) (x:=a) (show l*3+2≠l*3+1 by omega);have f2:=λg a=>cJ (f:=g) (x:=a) Z;have d:((l:Int)).toNat=l:=rfl;simp only[eR,hbb,hxx,P,d,e,F,if_true,if_false,aK,aE A.symm,f1]
end
variable{i l:Nat}{gi li:dc}
def GB(N L j:Nat)(x:Int):Prop:=-1<=x/\(j%3=2->x<L)/\(j%3≠2->x<N)
def LB(N j:Nat)(x:Int):Prop:=j%3≠2-> -1<=x/\x<N
def ic{aF1:Nat->Int->Prop}{g:dc}(h:∀j,aF1 j (g j)){x:Int}(S:aF1 i x):∀j,aF1 j (eH g i x j):=λj=>by
 by_cases e:j=i
 .subst e;rw[dk];trivial
 .rw [cJ e];grind
def IZ{aF1:Nat->Int->Prop}{g:dc}(h:∀j,aF1 j (g j)){a b c:Int}(S:aF1 i a)(s:aF1 (i+1) b)(hc:aF1 (i+2) c):∀j,aF1 j (zn g i a b c j):=λj=>by unfold zn;grind
@[grind cases] structure IS(N L:Nat)(gi li:dc):Prop where
 g:∀j,GB N L j (gi j)
 l:∀j,LB N j (li j)
def IS.g0{N L:Nat}(h:IS N L gi li)(i:Nat): -1<=gi (i*3)/\gi (i*3)<N:=by have:=h.g (i*3);unfold GB at this;omega
def IS.g1{N L:Nat}(h:IS N L gi li)(i:Nat): -1<=gi (i*3+1)/\gi (i*3+1)<N:=by have:=h.g (i*3+1);unfold GB at this;omega
def IS.g2{N L:Nat}(h:IS N L gi li)(i:Nat): -1<=gi (i*3+2)/\gi (i*3+2)<L:=by have:=h.g (i*3+2);unfold GB at this;omega
def IS.l0{N L:Nat}(h:IS N L gi li)(i:Nat): -1<=li (i*3)/\li (i*3)<N:=h.l (i*3) Z
def IS.l1{N L:Nat}(h:IS N L gi li)(i:Nat): -1<=li (i*3+1)/\li (i*3+1)<N:=h.l (i*3+1) Z
def IS.sT{N L:Nat}(h:IS N L gi li){n:Nat}(hl:l<L)(hn:n<N):IS N L (sT gi li l n) (vB li l n):=by
 have b:=h.l0 l;have M:∀j,GB N L j (zn gi (n*3) (li (l*3)) (-1) l j):=IZ h.g V4 V4 V4;refine⟨?_,?_⟩
 .unfold Sy.sT;split
  .exact ic M V4
  trivial
 .unfold Sy.vB;refine ic (ic ?_ Y7) Y7;split
  .exact h.l
  .exact ic h.l Y7
def IS.mV{N L:Nat}(h:IS N L gi li)(n:Nat):IS N L (mV gi n) (eR gi li n):=by
 have b:=h.g0 n;have x:=h.g1 n;have y:=h.g2 n;refine⟨?_,?_⟩
 .unfold Sy.mV;refine IZ ?_ V4 V4 V4;split<;>split
  .exact ic (ic h.g V4) V4
  .exact ic h.g V4
  .exact ic h.g V4
  .exact h.g
 .unfold Sy.eR;refine ic ?_ Y7;split<;>split
  .exact h.l
  .exact ic h.l Y7
  .exact ic h.l Y7
  .exact ic (ic h.l Y7) Y7
@[grind cases] structure rJ(own:aG)(c:Nat)(f:av)(m C N L:Nat)(nr lr:Nat)(gi li:dc):Prop where
 c:kB own c f m C N L nr lr gi li
 w:IS N L gi li
section
variable {own:aG} {c:Nat} {f:av} {m C N L nr lr:Nat} {gi li:dc}
def CO{R:Rt}(H:rJ own c f m C N L nr lr gi li)(l n:Nat)(hl:l<L)(hn:n<N):
  Cl R.Y.Y 290 [.ptr C 0,Q l,Q n] f m (λv y e=>(∃b,v= .bool b)/\e=m/\(∃d a,rJ own c y m C N L nr lr d a)/\Fr (· =c) own f m own y m):=by
 intro k S E;by_cases g:gi (n*3+2)<0
 .refine (Fq H.c l n hl hn (H.w.l0 l).2 g).go ?_;rintro v y e ⟨rfl,rfl,h,q⟩;exact E _ _ _ ⟨W,rfl,⟨_,_,h,H.w.sT hl hn⟩,q⟩
 .have o:=H.c.aC.obj;have p:=H.c.an.obj;have t:=tM H.c l hl;have i:=wZ H.c n hn;have r:N<=9223372036854775807:=by have:=H.c.n1;omega
  have c1:n*3+2<N*3:=Z;have j:0<=gi (n*3+2):=Z;refine cUx func290 ?_;refine zS ?_;exact E _ _ _ ⟨W,rfl,W,Fr.refl ..⟩
def zi{R:Rt}(H:rJ own c f m C N L nr lr gi li)(n:Nat)(hn:n<N):
  Cl R.Y.Y.Y 294 [.ptr C 0,Q n] f m (λv y e=>(∃b,v= .bool b)/\(∃d a,rJ own c y e C N L nr lr d a)/\Fr (· =c) own f m own y e):=by
 intro k S E;by_cases g:0<=gi (n*3+2)
 .refine (CN H.c n hn (H.w.g2 n).2 (H.w.g0 n).2 (H.w.g1 n).2 g).go ?_;rintro v y e ⟨rfl,h,q⟩;exact E _ _ _ ⟨W,⟨_,_,h,H.w.mV n⟩,q⟩
 .have t:=CL H.c n hn;have i:gi (n*3+2)<0:=Z;refine cUx func294 ?_;refine zS ?_;exact E _ _ _ ⟨W,W,Fr.refl ..⟩
end
def rZ(r w tl:Nat)(l n:Nat)(hl:l<=20000)(hn:n<=20000)(R f)(m:Nat)(k):(xk (.mB r w tl)).run R [Q l,Q n] (.fn f m) k=k (.ptr (pl m 2) 0) (.fn (bw (bw (bw f m (.row w (n*3) 0 true [Q (-1),Q (-1),Q (-1)] (.cf (zf [Q (-1),Q (-1),Q (-1)])))) (pl m 1) (.row tl (l*3) 0 true [Q (-1),Q (-1),Q 0] (.cf (zf [Q (-1),Q (-1),Q 0])))) (pl m 2) (.row r 2 0 true [.au] (.cf (bI [.sl m 0 n (.known n),.sl (pl m 1) 0 l (.known l)])))) (pl m 3)):=by show V.DA .i64 (Q l) _=_;rw[a2Z,LZ,a2Z,LZ,cw hl,cw hn];have u:Q (-1)= .ik .i64 (.negSucc 0):=G;have b:Q 0= .num 0:=G;rw[u,b];simp only[LY,Fi,ab6,a8t,wB,agT,Nat.reduceAdd];rfl
variable{c:Nat}
structure No where
 C:Nat
 cn:Nat
 cl:Nat
 cg:dc
 ch:dc
 O:Nat
 on:Nat
 ol:Nat
 og:dc
 oh:dc
 S:Nat
 gen:aG
 op:bs
 cV:Nat
 sa:rG
 mp:Nat
 l:List (Int×V×Nat)
 ck:Nat
 z:ay
 g:dA
 ids:dc
 gs:dc
@[grind cases] structure mW(own:aG)(f:av)(m aEV N d:Nat)(a:No):Prop where
 aQ:At own 37 f m aEV (.row 264 516 0 true a.z (.cf a.g))
 g0:a.g 0= .ptr a.C 0
 g1:a.g 1= .ptr a.O 0
 g2:a.g 2= .ptr a.S 0
 g3:a.g 3= .map a.mp
 g4:∀i,i<256->a.g (4+i)=Q (a.ids i)
 g5:∀i,i<256->a.g (260+i)=Q (a.gs i)
 am:At own 37 f m a.mp (.map (enc a.l) a.ck)
 wf:Wf a.l a.ck
 ky:∀p∈a.l,1<=p.1/\p.1<=N
 vl:∀x v,cC a.l x=some v->∃n:Nat,n<256/\v=Q n
 c1:rJ own 38 f m a.C 256 1 a.cn a.cl a.cg a.ch
 c2:rJ own 39 f m a.O 256 64 a.on a.ol a.og a.oh
 s:fF own 42 f m a.S 256 a.gen a.op a.cV a.sa
 cn:a.cV<=N
 gd:∀p,a.gen p<=d
@[grind] def PQ(x:Nat):Prop:=x=37\/x=38\/x=39\/x=42\/x=43
section
variable {own:aG} {f:av} {m aEV N d:Nat} {a:No}
def rJ.ah{P:dF}{t:aG}{e C N L a b:Nat}{k d:dc}(h:rJ own c f m C N L a b k d)(q:Fr P own f m t y e)(g:¬P c):rJ t c y e C N L a b k d:=⟨h.c.ah q g,h.w⟩
def mW.ah{P:dF}{t:aG}{L:Nat}(h:mW own f m aEV N d a)(q:Fr P own f m t y L)(g:¬P 37/\¬P 38/\¬P 39/\¬P 42/\¬P 43):mW t y L aEV N d a:=
 ⟨h.aQ.ah q W,h.g0,h.g1,h.g2,h.g3,h.g4,h.g5,h.am.ah q W,h.wf,h.ky,h.vl,h.c1.ah q W,h.c2.ah q W,h.s.ah q W W,h.cn,h.gd⟩
@[grind →] theorem mW.gr{L:Nat}(h:mW own f m aEV N d a)(q:B f m y L):mW own y L aEV N d a:=h.ah (q.fr own (λ_=>False)) G
def Gz(H:mW own f m aEV N d a)(R:Rt)(L:Nat)(k):R.Y.call 288 [.ptr aEV 0] (.fn f L) k=k (.bool true) (.fn f L):=by have c:=H.aQ.obj;have o:=H.g3;refine cUx func288 ?_;exact zC
def aby(H:mW own f m aEV N d a)(n:Int)(hn:n<256)(R:Rt)(L:Nat)(k):R.Y.call 354 [.ptr aEV 0,Q n] (.fn f L) k=k (Q (if 0<=n then a.ids n.toNat else 0)) (.fn f L):=by
 have c:=H.aQ.obj;by_cases h:0<=n
 .obtain ⟨j,rfl⟩:∃j:Nat,n=j:=⟨n.toNat,Z⟩;have z:j<256:=Z;have q:=H.g4 j z;have c1:¬((j:Int)<0):=Z;have c2:4+j<516:=Z;rw[ao h,show((j:Int)).toNat=j from rfl];refine cUx func354 ?_;exact zC
 .have c1:n<0:=by omega
  rw[aj h];refine cUx func354 ?_;exact zC
def No.hd(a:No)(p:Nat):Int:=if 0<=a.oh (p*3+1) then a.ids (a.oh (p*3+1)).toNat else 0
def JY(H:mW own f m aEV N d a)(p:Nat)(g:p<64)(R:Rt)(L:Nat)(k):R.Y.Y.Y.call 279 [.ptr aEV 0,Q p] (.fn f L) k=k (Q (a.hd p)) (.fn f L):=by have b:=H.aQ.obj;have s:=H.g1;have F:=Gz H;have j:=sK H.c2.c p g;have h:=aby H (a.oh (p*3+1)) (H.c2.w.l1 p).2;refine cUx func279 ?_;refine zS ?_;rfl
def a2t(H:mW own f m aEV N d a)(x:Int)(R:Rt)(L:Nat)(k):R.Y.Y.call 293 [.ptr aEV 0,Q x] (.fn f L) k=k ((cC a.l x).getD (Q (-1))) (.fn f L):=by
 have c:=H.aQ.obj;have o:=H.g3;have b:=H.am.obj;have F:=Gz H;cases S:cC a.l x with
 |none=>refine cUx func293 ?_;exact zC
 |some v=>obtain⟨n,g,rfl⟩:=H.vl x v S;refine cUx func293 ?_;exact zC
end
variable{S:Nat}{gen:aG}
section
variable {own:aG} {f:av} {m aEV N d:Nat} {a:No}
def a7o{R:Rt}(H:mW own f m aEV N d a)(p:Nat)(hp:p<64)(hN:N<256):
  Cl R.Y.Y.Y 213 [.ptr aEV 0,Q (N+1:Nat),Q p] f m (λv f' L=>v=Q 0/\(∃a',mW own f' L aEV (N+1) d a')/\Fr PQ own f m own f' L):=by
 intro k T E;have c:=H.aQ.obj;have g2:=H.g2;have g3:=H.g3;have hm:=H.am.obj;have hi:=Gz H;have hx:cC a.l (N+1:Nat)=none:=lO.2 (λhm=>by obtain⟨q,hq,e⟩:=fA.1 hm;have:=H.ky q hq;omega);have c1:¬(((N+1:Nat):Int)<1):=Z;have c2:¬((p:Int)<0):=Z;have c3:¬((64:Int)<=p):=Z;refine cUx func213 ?_;simp only[go_sem,c,g2,g3,hm,hi,hx,c1,c2,c3, ↓ag 289];have hcn:=H.cn;apply(uL H.s Z).bu;rintro v r m1 ⟨n,rfl,rfl,hn,ho,⟨sa',hs⟩,P⟩;have A:=H.aQ.ah P I;have M:=H.am.ah P I;have hQ1:=A.obj;have Ur:=M.obj;have u:aEV≠a.mp:=W;have c4:4+n<516:=Z;have c5:260+n<516:=Z;have hen:=λF (j:F a.mp= .map (enc a.l) a.ck) M k=>TY (f:=F) (n:=M) wj (λh=>Q8) j hx k;have hes:=λF (j:F a.mp= .map (enc (eJ a.l (N+1:Nat) (.num 0) a.ck)) (a.ck+1)) M k=>TX (f:=F) (n:=M) (v:=Q n) (iW _) j hx H.wf k;have u0:∀x y,cy (cy a.g (4+n) x) (260+n) y 0= .ptr a.C 0:=λx y=>by rw[a04 Z,a04 Z];exact H.g0
 have u1:∀x y,cy (cy a.g (4+n) x) (260+n) y 1= .ptr a.O 0:=λx y=>by rw[a04 Z,a04 Z];exact H.g1
 have t:∀x y,cy (cy a.g (4+n) x) (260+n) y 2= .ptr a.S 0:=λx y=>Qp;have u3:∀x y,cy (cy a.g (4+n) x) (260+n) y 3= .map a.mp:=λx y=>Qp;simp only[go_sem,hQ1,Ur,g3,u,c4,c5,hn,hen,hes,u0, ↓ag 290];refine aP ?_;intro F j;have o:Fr (· =37) own r m1 own F m1:=by rw[j];exact(Fr.w (m2:=m1) (by repeat (first|exact Fr.refl _ _ _ _|refine Fr.bw ?_ (by first|exact λh=>absurd h J7|exact λ_=>A.own|exact λ_=>.inl A.own|exact λ_=>.inr A.own|exact λ_=>M.own|exact λ_=>.inl M.own|exact λ_=>.inr M.own))) Z)
 have A2:At own 37 F m1 aEV (.row 264 516 0 true a.z (.cf (cy (cy a.g (4+n) (Q (N+1:Nat))) (260+n) (Q (a.gen n))))):=⟨J3,A.own,A.lt⟩;have M2:At own 37 F m1 a.mp (.map (enc (eJ a.l (N+1:Nat) (Q n) a.ck)) (a.ck+1)):=⟨by rw[j];simp only[go_sem,u.symm],M.own,M.lt⟩;have hw:im a.l (N+1:Nat) a.ck=a.ck+1:=by unfold im;rw[ao hx]
 refine(CO ((H.c1.ah P I).ah o I) 0 n I hn).bu ?_;rintro v f2 m2 ⟨⟨b,rfl⟩,rfl,⟨gi,li,hc1⟩,q3⟩;have hQ2:=(A2.ah q3 I).obj;simp only[go_sem,hQ2,u1, ↓ag 290];refine(CO (((H.c2.ah P I).ah o I).ah q3 I) p n hp hn).bu ?_;rintro v f3 m3 ⟨⟨b2,rfl⟩,rfl,⟨gi2,li2,hc2⟩,q4⟩;refine zS ?_;have w:=H.wf.set (N+1:Nat) (Q n);rw[hw] at w;refine E _ _ _ ⟨rfl,⟨⟨a.C,a.cn,a.cl,gi,li,a.O,a.on,a.ol,gi2,li2,a.S,a.gen,fB a.op n true,a.cV+1,sa',a.mp,eJ a.l (N+1:Nat) (Q n) a.ck,a.ck+1,a.z,cy (cy a.g (4+n) (Q (N+1:Nat))) (260+n) (Q (a.gen n)),eH a.ids n (N+1:Nat),eH a.gs n (a.gen n)⟩,⟨(A2.ah q3 I).ah q4 I,W,W,W,W,λi hi=>?_,λi hi=>?_,(M2.ah q3 I).ah q4 I,w,λq hq=>?_,λx v hv=>?_,hc1.ah q4 I,hc2,((hs.ah o I I).ah q3 I I).ah q4 I I,W,H.gd⟩⟩,?_⟩
 .show cy (cy a.g (4+n) _) (260+n) _ (4+i)=Q (eH a.ids n _ i);rw[a04 Z];by_cases e:i=n
  .subst e;rw[cd,dk]
  .rw [a04 Z,cJ e];exact H.g4 i hi
 .show cy (cy a.g (4+n) _) (260+n) _ (260+i)=Q (eH a.gs n _ i);by_cases e:i=n
  .subst e;rw[cd,dk]
  .rw [a04 Z,a04 Z,cJ e];exact H.g5 i hi
 .rw [tz hx] at hq;rcases fJ.1 hq with h|h
  .have:=H.ky q h;omega
  grind
 .rw [dR] at hv;split at hv
  .grind
  .exact H.vl x v hv
 .exact (((P.trans o (S:=PQ) (λ_ h=>.inr (.inr (.inr (.inl h)))) (λ_ h=>.inl h)).trans q3 (λ_ h=>h) (λ_ h=>.inr (.inl h))).trans q4 (λ_ h=>h) (λ_ h=>.inr (.inr (.inl h))))
def AZ{n a:Nat}{op:bs}{d:rG}(H:fF own c f m S n gen op a d)(p:Nat)(g:Int)(h:¬(op p=true/\(gen p:Int)=g))(R:Rt)(L:Nat)(k):R.Y.Y.call 295 [.ptr S 0,Q p,Q g] (.fn f L) k=k (.bool false) (.fn f L):=by have t:=oQ H p g;rw[dB W] at t;refine cUx func295 ?_;exact zC
def JZ{R:Rt}(H:mW own f m aEV N d a)(x:Int)(hd:d<=1048576):
  Cl R.Y.Y.Y.Y 216 [.ptr aEV 0,Q x] f m (λv f' L=>(∃e,v=Q e)/\∃t,(∃a',mW t f' L aEV N (d+1) a')/\Fr PQ own f m t f' L):=by
 intro k T E;have c:=H.aQ.obj;have g0:=H.g0;have g1:=H.g1;have g2:=H.g2;have g3:=H.g3;have hm:=H.am.obj;have hi:=Gz H;have hf:=a2t H x;cases hx:cC a.l x with
 |none=>rw[hx] at hf;simp only[Option.getD_none] at hf;refine cUx func216 ?_;refine zS ?_;exact E _ _ _ ⟨W,own,⟨a,{H with gd:=λp=>by have:=H.gd p;omega}⟩,Fr.refl ..⟩
 |some v=>
  obtain⟨n,hn,rfl⟩:=H.vl x v hx;rw[hx] at hf;simp only[uB] at hf;have c1:¬((n:Int)<0):=Z;have u:aEV≠a.mp:=W;refine cUx func216 ?_;simp only[go_sem,hi,hf,c,g0,g3,hm,c1,u, ↓ag 294];refine aP ?_;intro F j;have P:Fr (· =37) own f m own F m:=by rw[j];exact(Fr.w (m2:=m) (by repeat (first|exact Fr.refl _ _ _ _|refine Fr.bw ?_ (by first|exact λh=>absurd h J7|exact λ_=>H.am.own|exact λ_=>.inl H.am.own|exact λ_=>.inr H.am.own))) Z)
  have A1:At own 37 F m aEV (.row 264 516 0 true a.z (.cf a.g)):=⟨by rw[j,aE u];trivial,H.aQ.own,H.aQ.lt⟩;have M1:At own 37 F m a.mp (.map (enc (iO a.l x)) a.ck):=⟨J3,H.am.own,H.am.lt⟩;apply(zi (H.c1.ah P I) n hn).bu;rintro v r m1 ⟨⟨b,rfl⟩,⟨gi,li,hc1⟩,o⟩;have hQ1:=(A1.ah o I).obj;simp only[go_sem,hQ1,g1, ↓ag 294];refine(zi ((H.c2.ah P I).ah o I) n hn).bu ?_;rintro v f2 m2 ⟨⟨b2,rfl⟩,⟨gi2,li2,hc2⟩,q3⟩;have A2:=(A1.ah o I).ah q3 I;have hQ2:=A2.obj;have g5:=H.g5 n hn;have c2:260+n<516:=Z;have IK:=((H.s.ah P I I).ah o I I).ah q3 I I;have anO:Fr PQ own f m own f2 m2:=((P.trans o (S:=PQ) (λ_ h=>.inl h) (λ_ h=>.inr (.inl h))).trans q3 (λ_ h=>h) (λ_ h=>.inr (.inr (.inl h))));have A:∀(t:aG) (f':Nat->Ev.O) (L:Nat) (wH:aG) (op':bs) (wX:Nat) (sa':rG),fF t 42 f' L a.S 256 wH op' wX sa'->wX<=N->(∀p,wH p<=d+1)->Fr (λx=>x=42\/x=42+1) own f2 m2 t f' L->k (Q 0) (.fn f' L)=T:=by
   intro t f' L wH op' wX sa' M hc hg i;refine E _ _ _ ⟨W,t,⟨⟨a.C,a.cn,a.cl,gi,li,a.O,a.on,a.ol,gi2,li2,a.S,wH,op',wX,sa',a.mp,iO a.l x,a.ck,a.z,a.g,a.ids,a.gs⟩,⟨A2.ah i I,H.g0,H.g1,H.g2,H.g3,H.g4,H.g5,((M1.ah o I).ah q3 I).ah i I,H.wf.del _,λq hq=>H.ky q (wu _ _ q hq),λy v hv=>?_,(hc1.ah q3 I).ah i I,hc2.ah i I,M,hc,hg⟩⟩,anO.trans i (λ_ h=>h) (λx h=>by rcases h with h|h;exact .inr (.inr (.inr (.inl h)));exact .inr (.inr (.inr (.inr h))))⟩;rw[jH H.wf.keys] at hv;split at hv
   .trivial
   .exact H.vl y v hv
  by_cases hr:a.op n=true/\(a.gen n:Int)=a.gs n
  .simp only[go_sem,hQ2,g2,g5,c2,hn, ↓ag 295];rw[←hr.2];apply(sd IK n W (by have:=H.gd n;omega)).bu;rintro v f3 m3 ⟨rfl,t,⟨sa',M⟩,h0,i⟩;refine zS ?_;refine A t f3 m3 _ _ _ sa' M (by have:=H.cn;omega) (λp=>?_) i;have:=H.gd p;unfold vV;grind
  .have Dp:=AZ IK n (a.gs n) hr;refine zS ?_;exact A own f2 m2 _ _ _ _ IK H.cn (λp=>by have:=H.gd p;omega) (Fr.refl ..)
end
def pf(own:aG)(d:Nat)(f:av)(m aEX aF1 w:Nat):Prop:=At own d f m aEX (.row 620 2 0 true [.bg,.num 0] (.cf (bI [.ptr aF1 0,Q w])))
section
variable {own:aG} {c d:Nat} {f:av} {m aEX aF1 sz w:Nat} {a:a0x}
def Gm(H:pf own d f m aEX aF1 w)(R:Rt)(L:Nat)(k):R.Y.call 489 [.ptr aEX 0] (.fn f L) k=k (.bool true) (.fn f L):=by have i:=At.obj H;refine cUx func489 ?_;exact zC
def Ec(H:pf own d f m aEX aF1 w)(R:Rt)(L:Nat)(k):R.Y.Y.Y.call 492 [.ptr aEX 0] (.fn f L) k=k (Q w) (.fn f L):=by have i:=At.obj H;have F:=Gm H;refine cUx func492 ?_;refine zS ?_;refine cUx func118 ?_;exact zC
def JN(H:pf own d f m aEX aF1 w)(b:hJ own c f m aF1 sz a)(l:w<=sz)(R:Rt)(L:Nat)(k):R.Y.Y.Y.Y.call 490 [.ptr aEX 0] (.fn f L) k=k (Q (sz-w:Nat)) (.fn f L):=by have i:=At.obj H;have F:=Gm H;have hp:=Ec H;have M:=MO b;have z:=b.s2;have N:IntKind.i64.wrap ((sz:Int)-w)=((sz-w:Nat):Int):=Ql;refine cUx func490 ?_;exact zC
def a2a(H:pf own d f m aEX aF1 w)(b:hJ own c f m aF1 sz a)(l:w<=sz)(R:Rt)(L:Nat)(k):R.Y.Y.Y.Y.Y.call 461 [.ptr aEX 0] (.fn f L) k=k (.bool (decide (w=sz))) (.fn f L):=by
 have F:=Gm H;have t:=JN H b l;by_cases e:w=sz
 .have c1:(((sz-w:Nat)):Int)=0:=by omega
  rw[dI e];refine cUx func461 ?_;simp only[go_sem,F,t,c1]
 .have c1:¬(((sz-w:Nat)):Int)=0:=by omega
  rw[dB e];refine cUx func461 ?_;exact zC
def Wy(own)(d:Nat)(R:Rt)(b:hJ own c f m aF1 sz a):
  Cl R.Y.Y 459 [.ptr aF1 0] f m (λv y L=>∃aEX t,v= .ptr aEX 0/\pf t d y L aEX aF1 0/\Fr (λ_=>False) own f m t y L):=by
 intro k S E;have M:=MO b;have c1:¬(sz:Int)=0:=by have:=b.s1;omega
 refine cUx func459 ?_;refine zS ?_;refine fG ?_;intro F j;have p:Fr (λ_=>False) own f m (cm own m [d]) F (pl m 1):=by refine Fr.cm (P:=λ_=>False) ?_ (bP _);rw[j];exact B.fr (B.w (m2:=m) Qc E1) _ _
 exact E _ _ _ ⟨m,_,rfl,ez J3 rfl (bP _),p⟩
def a21{R:Rt}(H:pf own d f m aEX aF1 w)(b:hJ own c f m aF1 sz a)(M:w<=sz)(hc:c≠0)(h:c≠9)(u:c≠d)(g:d≠9)(n:Nat)(hn:1<=n):
  Cl R.Y.Y.Y.Y.Y 460 [.ptr aEX 0,Q n] f m (λv y L=>v= .cI [Q (min n (sz-w):Nat),Q 0]/\pf own d y L aEX aF1 (w+min n (sz-w))/\(∃a',hJ own c y L aF1 sz a')/\Fr (λx=>x=d\/x=c) own f m own y L):=by
 intro k S E;have i:=At.obj H;have F:=Gm H;have t:=JN H b M;have hp:=Ec H;have c1:¬(n:Int)<1:=Z;have j:min (n:Int) ((sz-w:Nat):Int)=((min n (sz-w):Nat):Int):=Z;obtain⟨q,C⟩:∃q,q=min n (sz-w):=W;rw[←C] at j E;refine cUx func460 ?_;simp only[go_sem,i,F,t,hp,c1,j, ↓ag 491];apply(a5n b hc h w q).bu;rintro v r l ⟨p,s,P⟩;rw[ao (by unfold SG;simp;omega)] at p;subst p;have A:pf own d r l aEX aF1 w:=At.ah H P Z;have e:=At.obj A;have z:=b.s2;have N:IntKind.i64.wrap ((w:Int)+q)=((w+q:Nat):Int):=Qf;simp only[go_sem];refine cUx func380 ?_;simp only[go_sem,e];rw[j,N];obtain⟨a',s⟩:=s;have o:Fr (· =d) own r l own (bw r aEX (.row 620 2 0 true [.bg,.num 0] (.cf (bI [.ptr aF1 0,Q (w+q:Nat)])))) l:=(Fr.refl _ own r l).bw (λ_=>A.own);exact E _ _ _ ⟨rfl,⟨aK ..,A.own,A.lt⟩,⟨a',s.ah o Z u⟩,P.trans o Z Z⟩
end
variable{m rm:Nat}{own:aG}{f:av}{g:dA}
@[grind cases] structure jO(own:aG)(f:av)(m T n:Nat)(xs:aI)(rm:Nat)(g:dA):Prop where
 aT:At own 2 f m T (.row 459 2 0 true [.au,.au] (.cf (bI [.sl rm n xs.length (.known n),.sl rm 0 n (.known n)])))
 ar:At own 2 f m rm (.row 3 (n*2) 0 true [.num 0] (.cf g))
 n1:n<=64
 le:xs.length<=n
 nd:xs.Nodup
 lt:∀x∈xs,x<n
 out:∀i,i<n->i∉xs->g i=Q (-1)
 at_:∀j (h:j<xs.length),g xs[j]=Q j
 ls:∀j (h:j<xs.length),g (n+j)=Q xs[j]
def jO.ah{P:dF}{t:aG}{L T n:Nat}{xs:aI}(h:jO own f m T n xs rm g)(q:Fr P own f m t y L)(a:¬P 2):jO t y L T n xs rm g:=
 ⟨h.aT.ah q a,h.ar.ah q a,h.n1,h.le,h.nd,h.lt,h.out,h.at_,h.ls⟩
section
variable {own:aG} {f:av} {m T n i:Nat} {xs:aI} {rm:Nat} {g:dA}
def AT{R:Rt}(H:jO own f m T n xs rm g)(i:Nat)(F:i<n)(S:i∉xs):
  Cl R.Y 177 [.ptr T 0,Q i] f m (λv y L=>v= .bool true/\(∃P,jO own y L T n (xs++ [i]) rm P)/\Fr (· =2) own f m own y L):=by
 intro k TT E;have t:xs.length<n:=Nat.lt_of_succ_le (dg (l:=i::xs) (iK.2 ⟨S,H.nd⟩) (λx h=>Y9));have s:=H.aT.obj;have d:=H.ar.obj;have C:=H.out i F S;have c:T≠rm:=W;have u:rm≠m:=by have:=H.ar.lt;omega
 have b:T≠m:=by have:=H.aT.lt;omega
 have q:¬((i:Int)<0):=Z;have c1:i<n*2:=Z;have c2:¬((n:Int)<=i):=Z;have w:n<=9223372036854775807:=O8;have o:xs.length<=9223372036854775807:=Z;refine cUx func177 ?_;refine zS ?_;refine Dd (g:=cy g i (Q xs.length)) (mm:=n*2) T9 Z (by refine zS ?_;omega) ?_;refine zS ?_;refine E _ _ _ ?_;have p:m<=pl m 1:=W;refine⟨rfl,⟨laid (n+xs.length) [Q i] (cy g i (Q xs.length)),⟨E6,H.aT.own,bW H.aT.lt p⟩,⟨by simp only[go_sem,c.symm],H.ar.own,bW H.ar.lt p⟩,H.n1,W,?_,?_,?_,?_,?_⟩,?_⟩
 .rw [jS];exact⟨H.nd,J1,W⟩
 .intro x S;rcases fJ.1 S with h|h;exact H.lt x h;grind
 .intro j z r;simp at r;rw[dL Z,a04 Z];exact H.out j z W
 .intro j z;rw[eZ] at z;by_cases e:j=xs.length
  .subst e;simp only[AG];rw[dL Z,cd]
  .have z:j<xs.length:=by simp at z;omega
   have A:=H.lt _ (eL z);rw[FT z,dL Z,a04 W];exact H.at_ j z
 .intro j z;rw[eZ] at z;by_cases e:j=xs.length
  .subst e;simp only[AG];rw[du Z J1,mH,BQ]
  .have z:j<xs.length:=by simp at z;omega
   rw[FT z,dL Z,a04 Z];exact H.ls j z
 .exact ((((Fr.refl _ own f m).bw (x:=rm) (λ_=>H.ar.own)).new).bw (x:=rm) (λ_=>H.ar.own)).bw (x:=T) (λ_=>H.aT.own)
def Wp(H:jO own f m T n (xs++ [i]) rm g)(R:Rt)(L:Nat)(k):R.Y.call 468 [.ptr T 0] (.fn f L) k=k (.cI [Q i,.bool true]) (.fn f L):=by have v:=H.aT.obj;have d:=H.ar.obj;have t:=H.ls xs.length J1;simp only[AG] at t;have l:=H.le;have a:=H.n1;simp at l;rw[eZ] at v;have o:xs.length+1<=9223372036854775807:=Z;have q:¬(((xs.length+1:Nat):Int)=0):=Z;have N:IntKind.i64.wrap (((xs.length+1:Nat):Int)-1)=xs.length:=Ql;have c1:n+xs.length<n*2:=Z;have c2:xs.length<xs.length+1:=Z;refine cUx func468 ?_;exact zC
def JJ(H:jO own f m T n (xs++ [i]) rm g)(R:Rt)(L:Nat)(k):R.Y.call 494 [.ptr T 0,Q i] (.fn f L) k=k (Q xs.length) (.fn f L):=by have v:=H.aT.obj;have d:=H.ar.obj;have t:=H.at_ xs.length J1;simp only[AG] at t;have F:=H.lt i J1;have q:¬((i:Int)<0):=Z;have c1:i<n*2:=Z;have c2:¬((n:Int)<=i):=Z;have w:n<=9223372036854775807:=O8;refine cUx func494 ?_;exact zC
def OK{R:Rt}(H:jO own f m T n (xs++ [i]) rm g):
  Cl R.Y.Y 471 [.ptr T 0,Q i] f m (λv y L=>v= .bool true/\L=m/\(∃P,jO own y L T n xs rm P)/\Fr (· =2) own f m own y L):=by
 intro k TT E;have a:=H.aT.obj;have d:=H.ar.obj;have hP:=JJ H;have t:=H.ls xs.length J1;simp only[AG] at t;have F:=H.lt i J1;have l:=H.le;have b:=H.n1;simp at l;rw[eZ] at a;have c:T≠rm:=W;have o:xs.length+1<=9223372036854775807:=Z;have q:¬((xs.length:Int)<0):=Z;have N:IntKind.i64.wrap (((xs.length+1:Nat):Int)-1)=xs.length:=Ql;have c1:n+xs.length<n*2:=Z;have c2:xs.length<xs.length+1:=Z;have c3:i<n*2:=Z;have c4:xs.length<=n:=Z;refine cUx func471 ?_;simp only[go_sem,a,d,hP,t,o,q,N,c1,c2,c3,c4,F,c,c.symm,j7];refine E _ _ _ ?_;have S:∀j (z:j<xs.length),xs[j]≠i:=λj z e=>by have:=(jS.1 H.nd).2.2 _ (eL z) i J1;exact this e
 refine⟨rfl,rfl,⟨cy (cy (cy g (n+xs.length) (Q i)) i (Q xs.length)) i (Q (-1)),⟨E6,H.aT.own,H.aT.lt⟩,⟨E6,H.ar.own,H.ar.lt⟩,H.n1,c4,(jS.1 H.nd).1,λx h=>H.lt x W,?_,?_,?_⟩,?_⟩
 .intro j z b;by_cases e:j=i
  .subst e;rw[cd]
  .rw [a04 e,a04 e,a04 Z];exact H.out j z W
 .intro j z;have A:=H.lt xs[j] W;rw[a04 W,a04 W,a04 Z];have:=H.at_ j W;grind
 .intro j z;rw[a04 Z,a04 Z,a04 Z];have:=H.ls j W;grind
 .exact ((((Fr.refl _ own f m).bw (x:=rm) (λ_=>H.ar.own)).bw (x:=rm) (λ_=>H.ar.own)).bw (x:=T) (λ_=>H.aT.own)).bw (x:=rm) (λ_=>H.ar.own)
end
structure VJ where
 T:Nat
 rm:Nat
 g:dA
 S:Nat
 wr:Nat
 w:Nat
 z:ay
 gb:dA
@[grind cases] structure lk(own:aG)(f:av)(m X n:Nat)(xs:aI)(a:VJ):Prop where
 aX:At own 22 f m X (.row 359 2 0 true [.bg,.bg] (.cf (bI [.ptr a.T 0,.ptr a.S 0])))
 st:jO own f m a.T n xs a.rm a.g
 bi:jX own 21 f m a.S n (λj=>decide (j∈xs)) a.wr a.w a.z a.gb
def lk.ah{P:dF}{t:aG}{L X n:Nat}{xs:aI}{a:VJ}(h:lk own f m X n xs a)(q:Fr P own f m t y L)(A:¬P 2)(N:¬P 21)(M:¬P 22):lk t y L X n xs a:=
 ⟨h.aX.ah q M,h.st.ah q A,h.bi.ah q N⟩
section
variable {own:aG} {f:av} {m X n i:Nat} {xs:aI} {a:VJ}
def HO(H:lk own f m X n xs a)(R:Rt)(L:Nat)(k):R.Y.call 467 [.ptr X 0] (.fn f L) k=k (.bool true) (.fn f L):=by have w:=H.aX.obj;refine cUx func467 ?_;exact zC
def a4B(H:lk own f m X n xs a)(j:Nat)(z:j<n)(R:Rt)(L:Nat)(k):R.Y.Y.Y.call 469 [.ptr X 0,Q j] (.fn f L) k=k (.bool (decide (j∈xs))) (.fn f L):=by have w:=H.aX.obj;have F:=HO H;have s:=CW H.bi j z;refine cUx func469 ?_;exact zC
def YX(H:lk own f m X n (xs++ [i]) a)(R:Rt)(L:Nat)(k):R.Y.Y.call 432 [.ptr X 0] (.fn f L) k=k (.cI [Q i,.bool true]) (.fn f L):=by have w:=H.aX.obj;have F:=HO H;have s:=Wp H.st;refine cUx func432 ?_;exact zC
def jX.to{a w:Nat}{b k:bs}{z:ay}(h:jX own c f m S n b a w z g)(s:∀j,b j=k j):jX own c f m S n k a w z g:=by rw[←funext s];exact h
def YW{R:Rt}(H:lk own f m X n (xs++ [i]) a):
  Cl R.Y.Y.Y.Y 433 [.ptr X 0,Q i] f m (λv y L=>v= .bool true/\L=m/\(∃a',lk own y L X n xs a')/\Fr (λc=>c=2\/c=21) own f m own y L):=by
 intro k TT E;have u:=H.aX.obj;have d:=H.st.lt i J1;have F:=a4B H i d;have p:decide (i∈xs++ [i])=true:=J1;have b:i∉xs:=λh=>(jS.1 H.st.nd).2.2 _ h i J1 rfl;refine cUx func433 ?_;refine zS ?_;refine(a0j H.bi i d p).go ?_;rintro v r l ⟨rfl,rfl,⟨q,s⟩,P⟩;have e:=(H.aX.ah P I);have x:=e.obj;refine zS ?_;refine(OK (H.st.ah P I)).go ?_;rintro v t C ⟨rfl,rfl,⟨z,M⟩,o⟩;refine zS ?_;refine E _ _ _ ?_;exact⟨rfl,rfl,⟨{a with g:=z,w:=q},e.ah o I,M,(s.ah o I).to λj=>by grind⟩,P.trans o Z Z⟩
def YV{R:Rt}(H:lk own f m X n (xs++ [i]) a):
  Cl R.Y.Y.Y.Y.Y 387 [.ptr X 0] f m (λv y L=>v= .cI [Q i,.bool true]/\L=m/\(∃a',lk own y L X n xs a')/\Fr (λc=>c=2\/c=21) own f m own y L):=by
 intro k TT E;have F:=YX H;refine cUx func387 ?_;refine zS ?_;refine(YW H).go ?_;grind
def YY{R:Rt}(H:lk own f m X n xs a)(d:i<n)(b:i∉xs):
  Cl R.Y.Y.Y.Y 463 [.ptr X 0,Q i] f m (λv y L=>v= .bool true/\(∃a',lk own y L X n (xs++ [i]) a')/\Fr (λc=>c=2\/c=21) own f m own y L):=by
 intro k TT E;have q:=H.aX.obj;have F:=HO H;refine cUx func463 ?_;refine zS ?_;refine(MT H.bi i d W).go ?_;rintro v r l ⟨rfl,rfl,⟨h,s⟩,P⟩;have e:=(H.aX.ah P I);have x:=e.obj;refine zS ?_;refine(AT (H.st.ah P I) i d b).go ?_;rintro v p C ⟨rfl,⟨z,M⟩,o⟩;refine zS ?_;refine E _ _ _ ?_;exact⟨rfl,⟨{a with g:=z,w:=h},e.ah o I,M,(s.ah o I).to λj=>by grind⟩,P.trans o Z Z⟩
end
variable{p:Nat}
def a2H(h:p<4)(R:Rt)(f:av)(m:Nat)(k:cR):R.Y.call 472 [Q p] (.fn f m) k=k (.bool true) (.fn f m):=by have c1:(0:Int)<=p:=Z;have c2:(p:Int)<4:=Z;refine cUx func472 ?_;exact zC
def Pk{R:Rt}(p:Nat)(h:p<4):
  Cl R.Y.Y 435 [Q p,Q ((p:Int)+1)] f m (λv y L=>v= .cI [Q (((p+1)%4:Nat):Int),Q 0]/\B f m y L):=by
 intro k TT E;have F:=λR=>a2H h R;have q:¬((p:Int)+1<1):=Z;have c1:¬((4:Int)<p+1):=Z;have N:IntKind.i64.wrap ((p:Int)+1)=(p:Int)+1:=cB Z;have t:bI [Q 1,Q 2,Q 3,Q 4] p=Q ((p:Int)+1):=by have:p=0\/p=1\/p=2\/p=3:=Z;rcases this with rfl|rfl|rfl|rfl<;>rfl
 have d:((p:Int)+1).tmod 4=(((p+1)%4:Nat):Int):=rfl;refine cUx func435 ?_;refine zS ?_;refine E _ _ _ ?_;exact⟨rfl,(B.refl f m).new.bw Z⟩
variable{ge ow:dc}
def MI(l:List (Int×V×Nat)):Prop:=∀x v,cC l x=some v->∃y,v=Q y
def MI.get{l:List (Int×V×Nat)}(h:MI l)(x:Int):∃y,(cC l x).getD (.num 0)=Q y:=by
 cases p:cC l x with
 |none=>exact⟨0,G⟩
 |some v=>exact h x v p
def MI.set{l:List (Int×V×Nat)}(h:MI l)(x y:Int)(c:Nat):MI (eJ l x (Q y) c):=by
 intro z v C;rw[dR] at C;split at C
 .grind
 .exact h z v C
def MI.del{l:List (Int×V×Nat)}(h:MI l)(E:(l.map (·.1)).Nodup)(x:Int):MI (iO l x):=by
 intro z v C;rw[jH E] at C;split at C
 .trivial
 .exact h z v C
structure FB where
 r:Nat
 mp:Nat
 l:List (Int×V×Nat)
 c:Nat
 g:dA
@[grind cases] structure jB(own:aG)(f:av)(m T n:Nat)(ow ge:dc)(a:FB):Prop where
 aT:At own 1 f m T (.row 353 2 0 true [.au,.fR] (.cf (bI [.sl a.r 0 n (.known n),.map a.mp])))
 ar:At own 1 f m a.r (.row 391 (n*2) 0 true [.num 0,.num 0] (.cf (a.g)))
 am:At own 1 f m a.mp (.map (enc a.l) a.c)
 mi:MI a.l
 wf:Wf a.l a.c
 n1:n<=4096
 ow:∀i,i<n->a.g (i*2)=Q (ow i)
 ge:∀i,i<n->a.g (i*2+1)=Q (ge i)
def jB.ah{P:dF}{t:aG}{L T n:Nat}{a:FB}(h:jB own f m T n ow ge a)(g:Fr P own f m t y L)(b:¬P 1):jB t y L T n ow ge a:=
 ⟨h.aT.ah g b,h.ar.ah g b,h.am.ah g b,h.mi,h.wf,h.n1,h.ow,h.ge⟩
section
variable {own:aG} {f:av} {m T n:Nat} {ow ge:dc} {a:FB}
def FZ(H:jB own f m T n ow ge a)(i:Nat)(F:i<n)(R:Rt)(L:Nat)(k):R.Y.call 184 [.ptr T 0,Q i] (.fn f L) k=k (.bool true) (.fn f L):=by have v:=H.aT.obj;have w:n<=9223372036854775807:=O8;have c1:(i:Int)<n:=Z;refine cUx func184 ?_;exact zC
def xG(H:jB own f m T n ow ge a)(i:Nat)(F:i<n)(R:Rt)(L:Nat)(k):R.Y.Y.call 434 [.ptr T 0,Q i] (.fn f L) k=k (.cI [.ptr a.r (i*2),Q 0]) (.fn f L):=by have v:=H.aT.obj;have M:=FZ H i F;refine cUx func434 ?_;exact zC
def AP(H:jB own f m T n ow ge a)(i:Nat)(F:i<n)(R:Rt)(L:Nat)(k):R.Y.Y.call 120 [.ptr T 0,Q i] (.fn f L) k=k (Q (ow i)) (.fn f L):=by have v:=H.aT.obj;have d:=H.ar.obj;have b:=H.ow i F;have M:=FZ H i F;have c1:i*2<n*2:=Z;refine cUx func120 ?_;exact zC
def AQ(H:jB own f m T n ow ge a)(i:Nat)(F:i<n)(R:Rt)(L:Nat)(k):R.Y.Y.call 121 [.ptr T 0,Q i] (.fn f L) k=k (Q (ge i)) (.fn f L):=by have v:=H.aT.obj;have d:=H.ar.obj;have b:=H.ge i F;have M:=FZ H i F;have c1:i*2+1<n*2:=Z;refine cUx func121 ?_;exact zC
def a1C{R:Rt}(H:jB own f m T n ow ge a)(i:Nat)(F:i<n)(o:Int)(x:1<=o)(h0:ow i=0):
  Cl R.Y.Y.Y 390 [.ptr T 0,Q i,Q o] f m (λv h L=>v=Q 0/\L=m/\(∃a',jB own h m T n (eH ow i o) ge a')/\Fr (· =1) own f m own h m):=by
 intro k TT E;have s:=xG H i F;have t:=H.aT.obj;have d:=H.ar.obj;have w:=H.am.obj;have u:T≠a.r:=W;have b:T≠a.mp:=W;have q:a.r≠a.mp:=W;have c1:i*2<n*2:=Z;have c2:¬(o<1):=Z;have A:=H.ow i F;rw[h0] at A;obtain⟨y,p⟩:=H.mi.get o;refine cUx func390 ?_;simp only[go_sem,s,t,d,w,c1,c2,A,p,u,q.symm];refine E _ _ _ ?_;refine⟨rfl,rfl,⟨⟨a.r,a.mp,eJ a.l o (Q (IntKind.i64.wrap (y+1))) a.c,im a.l o a.c,cy a.g (i*2) (Q o)⟩,⟨⟨X7,H.aT.own,H.aT.lt⟩,⟨E6,H.ar.own,H.ar.lt⟩,⟨aK ..,H.am.own,H.am.lt⟩,H.mi.set _ _ _,H.wf.set _ _,H.n1,?_,?_⟩⟩,?_⟩
 .intro j z;show cy a.g (i*2) (Q o) (j*2)=_;by_cases e:j=i
  .subst e;rw[cd,dk]
  .rw [a04 Z,cJ e];exact H.ow j z
 .intro j z;show cy a.g (i*2) (Q o) (j*2+1)=_;rw[a04 Z];exact H.ge j z
 .exact ((Fr.refl _ own f m).bw (λ_=>H.ar.own)).bw (λ_=>H.am.own)
def OF{R:Rt}(H:jB own f m T n ow ge a)(i:Nat)(F:i<n)(h0:ow i≠0):
  Cl R.Y.Y.Y 421 [.ptr T 0,Q i] f m (λv q L=>v=Q 0/\L=m/\(∃a',jB own q m T n (eH ow i 0) ge a')/\Fr (· =1) own f m own q m):=by
 intro k TT E;have t:=xG H i F;have w:=H.aT.obj;have d:=H.ar.obj;have x:=H.am.obj;have u:T≠a.r:=W;have b:T≠a.mp:=W;have A:a.r≠a.mp:=W;have c1:i*2<n*2:=Z;have s:=H.ow i F;obtain⟨y,M⟩:=H.mi.get (ow i);have h:cC (eJ a.l (ow i) (Q (IntKind.i64.wrap (y-1))) a.c) (ow i)=some (Q (IntKind.i64.wrap (y-1))):=by rw[dR,ao rfl]
 have p:∀j,j<n->cy a.g (i*2) (Q 0) (j*2)=Q (eH ow i 0 j):=λj z=>by
  by_cases e:j=i
  .subst e;rw[cd,dk]
  .rw [a04 Z,cJ e];exact H.ow j z
 have o:∀j,j<n->cy a.g (i*2) (Q 0) (j*2+1)=Q (ge j):=λj z=>by rw[a04 Z];exact H.ge j z
 by_cases C:IntKind.i64.wrap (y-1)=0
 .rw [C] at h;refine cUx func421 ?_;refine zS ?_;refine E _ _ _ ?_;refine⟨rfl,rfl,⟨⟨a.r,a.mp,iO (eJ a.l (ow i) (Q 0) a.c) (ow i),im a.l (ow i) a.c,cy a.g (i*2) (Q 0)⟩,⟨⟨X7,H.aT.own,H.aT.lt⟩,⟨aK ..,H.ar.own,H.ar.lt⟩,⟨Zd,H.am.own,H.am.lt⟩,(H.mi.set _ _ _).del (H.wf.set _ _).keys _,(H.wf.set _ _).del _,H.n1,p,o⟩⟩,?_⟩;exact(((Fr.refl _ own f m).bw (λ_=>H.am.own)).bw (λ_=>H.am.own)).bw (λ_=>H.ar.own)
 .refine cUx func421 ?_;refine zS ?_;refine E _ _ _ ?_;refine⟨rfl,rfl,⟨⟨a.r,a.mp,eJ a.l (ow i) (Q (IntKind.i64.wrap (y-1))) a.c,im a.l (ow i) a.c,cy a.g (i*2) (Q 0)⟩,⟨⟨X7,H.aT.own,H.aT.lt⟩,⟨aK ..,H.ar.own,H.ar.lt⟩,⟨Zd,H.am.own,H.am.lt⟩,H.mi.set _ _ _,H.wf.set _ _,H.n1,p,o⟩⟩,?_⟩;exact((Fr.refl _ own f m).bw (λ_=>H.am.own)).bw (λ_=>H.ar.own)
def OE{R:Rt}(H:jB own f m T n ow ge a)(i:Nat)(F:i<n)(h0:ow i=0)(p:ge i<1048575)(t:0<=ge i):
  Cl R.Y.Y.Y 462 [.ptr T 0,Q i] f m (λv y L=>v=Q 0/\L=m/\(∃a',jB own y m T n ow (eH ge i (ge i+1)) a')/\Fr (· =1) own f m own y m):=by
 intro k TT E;have o:=xG H i F;have q:=H.aT.obj;have d:=H.ar.obj;have u:T≠a.r:=W;have A:a.r≠a.mp:=H.ar.kv H.am qM;have c1:i*2<n*2:=Z;have c2:i*2+1<n*2:=Z;have c3:¬(1048575<=ge i):=Z;have b:=H.ow i F;rw[h0] at b;have h:=H.ge i F;have N:IntKind.i64.wrap (ge i+1)=ge i+1:=cB Z;refine cUx func462 ?_;refine zS ?_;refine E _ _ _ ?_;refine⟨rfl,rfl,⟨⟨a.r,a.mp,a.l,a.c,cy a.g (i*2+1) (Q (ge i+1))⟩,⟨⟨by simp only[go_sem,u];trivial,H.aT.own,H.aT.lt⟩,⟨aK ..,H.ar.own,H.ar.lt⟩,⟨by simp only[go_sem,A.symm];exact H.am.obj,H.am.own,H.am.lt⟩,H.mi,H.wf,H.n1,?_,?_⟩⟩,?_⟩
 .intro j z;show cy a.g (i*2+1) (Q (ge i+1)) (j*2)=_;rw[a04 Z];exact H.ow j z
 .intro j z;show cy a.g (i*2+1) (Q (ge i+1)) (j*2+1)=_;by_cases e:j=i
  .subst e;rw[cd,dk]
  .rw [a04 Z,cJ e];exact H.ge j z
 .exact (Fr.refl _ own f m).bw (λ_=>H.ar.own)
end
structure vD where
 T:Nat
 F:Nat
 cr:Nat
 aF1:Nat
 z:ay
 zc:ay
 g:dA
 gc:dA
@[grind cases] structure gX(own:aG)(f:av)(m S n sz:Nat)(ph:aG)(mn:dc)(a:vD):Prop where
 aS:At own 23 f m S (.row 202 9 0 true a.z (.cf a.g))
 ac:At own 23 f m a.cr (.row 287 (n*6) 0 true a.zc (.cf a.gc))
 g0:a.g 0= .ptr a.T 0
 g1:a.g 1= .ptr a.F 0
 g2:a.g 2= .sl a.cr 0 n (.known n)
 g3:a.g 3=Q sz
 g4:∀p,p<4->a.g (4+p)=Q (mn p)
 g8:a.g 8= .ptr a.aF1 0
 n1:n<=64
 p4:∀i,ph i<4
 ph:∀i,i<n->a.gc (i*6+3)=Q (ph i)
section
variable {own:aG} {f:av} {m S n sz:Nat} {ph:aG} {mn:dc} {a:vD}
def gX.ah{P:dF}{t:aG}{L:Nat}(h:gX own f m S n sz ph mn a)(q:Fr P own f m t y L)(g:¬P 23):gX t y L S n sz ph mn a:=
 ⟨h.aS.ah q g,h.ac.ah q g,h.g0,h.g1,h.g2,h.g3,h.g4,h.g8,h.n1,h.p4,h.ph⟩
def vS(H:gX own f m S n sz ph mn a)(R:Rt)(L:Nat)(k):R.Y.call 67 [.ptr S 0] (.fn f L) k=k (.bool true) (.fn f L):=by have P:=H.aS.obj;have s:=H.g0;refine cUx func67 ?_;exact zC
def lI(H:gX own f m S n sz ph mn a)(i:Nat)(F:i<n)(R:Rt)(L:Nat)(k):R.Y.Y.call 119 [.ptr S 0,Q i] (.fn f L) k=k (.cI [.ptr a.cr (i*6),Q 0]) (.fn f L):=by have P:=H.aS.obj;have N:=H.g2;have M:=vS H;have q:¬((i:Int)<0):=Z;have c2:¬((n:Int)<=i):=Z;have w:n<=9223372036854775807:=O8;refine cUx func119 ?_;exact zC
def JH{d:dc}{e:FB}(H:gX own f m S n sz ph mn a)(c:jB own f m a.T n d ge e)(i:Nat)(F:i<n)(R:Rt):
  Cl R.Y.Y.Y 68 [.ptr S 0,Q i] f m (λv y L=>v= .cI [.agg [Q (ph i),Q (d i),Q (ge i)],.bool true]/\B f m y L):=by
 intro k TT E;have P:=H.aS.obj;have s:=H.g0;have N:=H.g2;have g:=H.ac.obj;have hp:=H.ph i F;have p:=λo=>((B.refl f m).new (o:=o)).fr own (λ_=>False);have h:=λo=>lI (H.ah (p o) id) i F;have j:=λo=>AP (c.ah (p o) id) i F;have hG:=λo=>AQ (c.ah (p o) id) i F;have c1:i*6+3<n*6:=Z;have u:S≠m:=by have:=H.aS.lt;omega
 have b:a.cr≠m:=by have:=H.ac.lt;omega
 refine cUx func68 ?_;refine zS ?_;refine E _ _ _ ?_;exact⟨rfl,(B.refl f m).new.bw Z⟩
def OH{d:dc}{e:FB}{v:V}(H:gX own f m S n sz ph mn a)(c:jB own f m a.T n d ge e)(i:Nat)(F:i<n)(A:ph i=1)(j:a.gc (i*6+4)=v)(g:∃x,v= .ptr x 0)(R:Rt)(L:Nat)(k):R.Y.Y.Y.call 320 [.ptr S 0,Q i,Q (ge i)] (.fn f L) k=k (.cI [v,Q 0]) (.fn f L):=by obtain⟨x,rfl⟩:=g;have P:=H.aS.obj;have s:=H.g0;have N:=H.g2;have b:=H.ac.obj;have g:=H.ph i F;rw[A] at g;have h:=lI H i F;have hG:=AQ c i F;have c1:i*6+3<n*6:=Z;have c2:i*6+4<n*6:=Z;refine cUx func320 ?_;exact zC
end
def zL(f)(i:Nat)(a b):bw (bw f i a) i b=bw f i b:=by funext j;rw[qH,qH,qH];grind
section
variable {f:av} {i o n t:Nat} {w:Bool} {z:ay} {g:dA}
def Eu(hf:f i= .row t n 0 w z (.cf g))(hn:o+3<=n)(p:g o= .ik .u32 1)(a)(H:a≠ .undef)(R:Rt)(m:Nat)(k):R.Y.Y.call 181 [.ptr i o,a] (.fn f m) k=k (.cI []) (.fn f m):=by have c1:o<n:=Z;refine cUx func181 ?_;refine zS ?_;refine cUx func266 ?_;exact zC
def BC{R:Rt}(aEV:av->dF)(hf:f i= .row t n 0 w z (.cf g))(hn:o+3<=n)(p:g o= .ik .u32 0)(d:g (o+1)= .ik .i32 0)(a)(H:a≠ .undef)
  (b:∀k T,(∀y L,(∃P,y i= .row t n 0 w z (.cf P)/\P o= .ik .u32 0/\P (o+1)= .ik .i32 1/\aEV (bw y i (.row t n 0 w z (.cf (cy (cy P o (.ik .u32 1)) (o+1) (.ik .i32 0))))) L)->k (.cI []) (.fn y L)=T)->sN K R.Y.Y a [] (.fn (bw f i (.row t n 0 w z (.cf (cy g (o+1) (.ik .i32 1))))) m) k=T):
  Cl R.Y.Y.Y.Y 181 [.ptr i o,a] f m (λ_ y L=>aEV y L):=by
 intro k T E;have c1:o<n:=Z;have c2:o+1<n:=Z;refine cUx func181 ?_;refine zS ?_;refine cUx func266 ?_;simp only[go_sem,hf,c1,p,bN H];refine cUx func267 ?_;refine zS ?_;refine cUx func348 ?_;refine zS ?_;refine cUx func411 ?_;refine zS ?_;refine cUx func266 ?_;refine zS ?_;rw[bN H,bN H];refine b _ _ ?_;rintro y L ⟨P,A,N,M,c⟩;refine cUd func350 ?_;refine zS ?_;refine cUx func414 ?_;refine zS ?_;refine cUd func349 ?_;refine zS ?_;have c3:o+1≠o:=Z;have c4:IntKind.i32.wrap (1+ -1)=0:=I;refine cUx func412 ?_;refine zS ?_;refine E _ _ _ ?_;rw[zL];trivial
end
@[grind cases] structure ID(own:aG)(c:Nat)(f:av)(m aF1 n:Nat)(cs:dc)(r:Nat)(g:dA):Prop where
 aB:At own c f m aF1 (.row 362 5 0 true [.num 0,.ik .u32 0,.ik .i32 0,.ik .u32 0,.au] (.cf (bI [Q n,.ik .u32 1,.ik .i32 0,.ik .u32 0,.sl r 0 n (.known n)])))
 ar:At own c f m r (.row 387 n 0 true [.num 0] (.cf g))
 g:∀i,i<n->g i=Q (cs i)
def gZ(own:aG)(c:Nat)(f:av)(m aF1 n:Nat)(cs:dc):Prop:=
 0<n/\n<=64/\((At own c f m aF1 (.row 362 5 0 true [.num 0,.ik .u32 0,.ik .i32 0,.ik .u32 0,.au] (.cf (bI [Q n,.ik .u32 0,.ik .i32 0,.ik .u32 0,.au])))/\∀i,i<n->cs i=0)\/∃r g,ID own c f m aF1 n cs r g)
def gZ.ah{P:dF}{t:aG}{L aF1 n:Nat}{cs:dc}(h:gZ own c f m aF1 n cs)(g:Fr P own f m t y L)(a:¬P c):gZ t c y L aF1 n cs:=by
 obtain⟨s,A,N⟩:=h;refine⟨s,A,?_⟩;rcases N with⟨N,M⟩|⟨r,F,N⟩
 .exact .inl ⟨N.ah g a,M⟩
 .exact .inr ⟨r,F,N.aB.ah g a,N.ar.ah g a,N.g⟩
section
variable {own:aG} {c:Nat} {f:av} {m aF1 n:Nat} {cs:dc}
def zh{R:Rt}(H:gZ own c f m aF1 n cs)(i:Nat)(F:i<n):
  Cl R.Y.Y.Y.Y.Y 117 [.ptr aF1 0,Q i] f m (λv y L=>∃t r g,v= .ptr r i/\ID t c y L aF1 n cs r g/\Fr (· =c) own f m t y L):=by
 intro k S E;obtain⟨w,x,h⟩:=H;have c1:¬((i:Int)<0):=Z;have c2:¬((n:Int)<=i):=Z;rcases h with⟨q,b⟩|⟨r,g,h⟩
 .have s:=q.obj;have c3:aF1≠m:=by have:=q.lt;omega
  have c4:n<=4294967296:=Z;have M:8*n<=281474976710656:=Z;refine cUx func117 ?_;refine zS ?_;refine(BC (aEV:=λy L=>y=bw (bw f m (.row 387 n 0 true [.num 0] (.cf (zf [.num 0])))) aF1 (.row 362 5 0 true [.num 0,.ik .u32 0,.ik .i32 0,.ik .u32 0,.au] (.cf (bI [Q n,.ik .u32 1,.ik .i32 0,.ik .u32 0,.sl m 0 n (.known n)])))/\L=pl m 1) s Z rfl rfl _ (λh=>Q8) ?_).go ?_
  .intro k S E;refine zS ?_;refine cUx func182 ?_;refine zS ?_;refine E _ _ ⟨_,aK ..,?_,?_,?_,rfl⟩
   .exact zC
   .exact zC
   .simp only[go_sem,Ua];funext j;simp only[qH];grind
  .rintro v y L ⟨rfl,rfl⟩;refine zS ?_;refine E _ _ _ ⟨rQ own m c,m,zf [.num 0],rfl,?_,?_⟩
   .have u:own aF1=c:=q.own;refine⟨⟨aK ..,by rw[oU c3];trivial,by unfold pl;have:=q.lt;omega⟩,⟨by simp only[go_sem,c3.symm],iY ..,W⟩,λj z=>by rw[nU,b j z];trivial⟩
   .exact ((Fr.refl _ own f m).new.bw (λ_=>q.own)).owns Z
 .have s:=h.aB.obj;have d:=h.ar.obj;have p:=λa e=>Eu (o:=1) s Z rfl a e;refine cUx func117 ?_;refine zS ?_;exact E _ _ _ ⟨own,r,g,rfl,h,Fr.refl ..⟩
def ID.ok{aF1 n r:Nat}{cs:dc}(h:ID own c f m aF1 n cs r g)(i:0<n)(d:n<=64):gZ own c f m aF1 n cs:=⟨i,d,.inr ⟨r,g,h⟩⟩
def a9d(H:gZ own c f m aF1 n cs):∃l,At own c f m aF1 (.row 362 5 0 true [.num 0,.ik .u32 0,.ik .i32 0,.ik .u32 0,.au] (.cf (bI (Q n::l)))):=by
 obtain⟨_,_,⟨h,_⟩|⟨r,g,h⟩⟩:=H
 .grind
 .exact ⟨_,h.aB⟩
def ZW{R:Rt}(H:gZ own c f m aF1 n cs)(i:Nat)(F:i<n):
  Cl R.Y.Y.Y.Y.Y.Y 66 [.ptr aF1 0,Q i] f m (λv y L=>v=Q (cs i)/\∃t,gZ t c y L aF1 n cs/\Fr (· =c) own f m t y L):=by
 intro k S E;refine cUx func66 ?_;refine zS ?_;refine(zh H i F).go ?_;rintro v y L ⟨t,r,g,rfl,h,j⟩;have d:=h.ar.obj;have p:=h.g i F;refine zS ?_;refine cUx func118 ?_;refine zS ?_;exact E _ _ _ ⟨rfl,t,h.ok H.1 H.2.1,j⟩
def yt{R:Rt}(H:gZ own c f m aF1 n cs)(i:Nat)(F:i<n)(b:Int)(s:0<=b)(M:0<=cs i)(P:cs i+b<=4611686018427387904):
  Cl R.Y.Y.Y.Y.Y.Y 324 [.ptr aF1 0,Q i,Q b] f m (λv y L=>v=Q 0/\∃t,gZ t c y L aF1 n (eH cs i (cs i+b))/\Fr (· =c) own f m t y L):=by
 intro k w E;obtain⟨l,q⟩:=a9d H;have A:=q.obj;have n0:¬((n:Int)=0):=by have:=H.1;omega
 refine cUx func324 ?_;refine zS ?_;refine(zh H i F).go ?_;rintro v y L ⟨t,r,g,rfl,h,a⟩;have d:=h.ar.obj;have p:=h.g i F;have c1:¬(b<0):=Z;have N:IntKind.i64.wrap (4611686018427387904-cs i)=4611686018427387904-cs i:=cB Z;have C:IntKind.i64.wrap (cs i+b)=cs i+b:=cB Z;have c2:¬(4611686018427387904-cs i<b):=Z;refine zS ?_;refine cUx func118 ?_;refine zS ?_;refine cUx func380 ?_;refine zS ?_;refine E _ _ _ ?_;refine⟨rfl,t,⟨H.1,H.2.1,.inr ⟨r,cy g i (Q (cs i+b)),⟨by simp only[go_sem,h.aB.kv h.ar (Gt I)];exact h.aB.obj,h.aB.own,h.aB.lt⟩,⟨aK ..,h.ar.own,h.ar.lt⟩,λj u=>?_⟩⟩,?_⟩
 .by_cases e:j=i
  .subst e;rw[cd,dk]
  .rw [a04 e,cJ e];exact h.g j u
 .refine ⟨a.le,a.same,λx S o=>?_,a.z⟩;have:x≠r:=λe=>o (by rw[←a.same x S,e];exact h.ar.own);rw[aE this];exact a.ah x S o
end
variable{j:Nat}
def ib(g:aG)(i v:Nat):aG:=λj=>if j=i then v else g j
def dP(g)(i v:Nat):ib g i v i=v:=ao rfl
def eU{g:aG}{v:Nat}(h:j≠i):ib g i v j=g j:=aj h
def AS(mn:dc)(p q:Nat):dc:=eH (eH mn p (mn p-1)) q (eH mn p (mn p-1) q+1)
section
variable {own:aG} {f:av} {m S n sz nb:Nat} {ph:aG} {mn cs:dc} {a:vD}
def OI{R:Rt}(H:gX own f m S n sz ph mn a)(HB:gZ own 24 f m a.aF1 nb cs)(i:Nat)(hi:i<n)(hnb:4<=nb)(hm:∀p,0<=mn p/\mn p<=64)(hs:∀j,0<=cs j/\cs j<1099511627776):
  Cl R.Y.Y.Y.Y.Y.Y.Y 391 [.ptr S 0,.ptr a.cr (i*6),Q ((ph i:Int)+1)] f m (λv y L=>v=Q 0/\∃t,(∃g',gX t y L S n sz (ib ph i ((ph i+1)%4)) (AS mn (ph i) ((ph i+1)%4)) {a with g:=g',gc:=cy a.gc (i*6+3) (Q ((ph i+1)%4:Nat))})/\gZ t 24 y L a.aF1 nb (eH cs (ph i) (cs (ph i)+1))/\Fr (λc=>c=23\/c=24) own f m t y L):=by
 intro k TT E;have F:=H.ac.obj;have hp:=H.ph i hi;have A:=H.p4 i;have c1:i*6+3<n*6:=Z;refine cUx func391 ?_;simp only[go_sem,F,hp,c1, ↓ag 435];apply(Pk (ph i) A).bu;rintro v r l ⟨rfl,P⟩;have hq4:(ph i+1)%4<4:=Z;generalize N:(ph i+1)%4=q at hq4 E ⊢;have x:=H.aS.gr P;have C1:=H.ac.gr P;have hS1:=x.obj;have hc1:=C1.obj;have h8:=H.g8;have hmp:=H.g4 _ A;have hmq:=H.g4 _ hq4;have e0:S≠a.cr:=W;have xl:q≠ph i:=Z;have k1:4+ph i<9:=Z;have s:4+q<9:=Z;have k3:cy a.g (4+ph i) (Q (mn (ph i)-1)) (4+q)=Q (mn q):=by rw[a04 Z];exact hmq
 have k4:∀v w,cy (cy a.g (4+ph i) v) (4+q) w 8= .ptr a.aF1 0:=λv w=>Qp;have w1:IntKind.i64.wrap (mn (ph i)-1)=mn (ph i)-1:=cB W;have u:IntKind.i64.wrap (mn q+1)=mn q+1:=cB W;have w3:IntKind.i64.wrap ((ph i:Int)+1-1)=ph i:=Ql;simp only[go_sem,hS1,hc1,hp,A,hq4,hmp,k1,s,k3,k4,w1,u,w3,e0,e0.symm,c1];have o:Fr (λc=>c=23) own f m own (bw (bw (bw r S (.row 202 9 0 true a.z (.cf (cy a.g (4+ph i) (Q (mn (ph i)-1)))))) S (.row 202 9 0 true a.z (.cf (cy (cy a.g (4+ph i) (Q (mn (ph i)-1))) (4+q) (Q (mn q+1)))))) a.cr (.row 287 (n*6) 0 true a.zc (.cf (cy a.gc (i*6+3) (Q q))))) l:=
  (((P.fr own _).bw (λ_=>H.aS.own)).bw (λ_=>H.aS.own)).bw (λ_=>H.ac.own)
 refine(yt (HB.ah o I) (ph i) Z 1 I W W).go ?_;rintro v d C ⟨rfl,M,hB,q3⟩;refine zS ?_;refine E _ _ _ ⟨rfl,M,⟨cy (cy a.g (4+ph i) (Q (mn (ph i)-1))) (4+q) (Q (mn q+1)),?_⟩,hB,o.trans q3 Z Z⟩;refine gX.ah (own:=own) (m:=l) ?_ q3 I;refine⟨⟨E6,H.aS.own,x.lt⟩,⟨aK ..,H.ac.own,C1.lt⟩,?_,?_,?_,?_,?_,W,H.n1,?_,?_⟩
 .show cy _ _ _ 0=_;rw[a04 Z,a04 Z];exact H.g0
 .show cy _ _ _ 1=_;rw[a04 Z,a04 Z];exact H.g1
 .show cy _ _ _ 2=_;rw[a04 Z,a04 Z];exact H.g2
 .show cy _ _ _ 3=_;rw[a04 Z,a04 Z];exact H.g3
 .intro p h;show cy _ _ _ (4+p)=Q (AS mn (ph i) q p);unfold AS;by_cases e:p=q
  .subst e;rw[cd,dk,cJ xl]
  .rw [a04 Z,cJ e];by_cases b:p=ph i
   .subst b;rw[cd,dk]
   .rw [a04 Z,cJ b];exact H.g4 p h
 .intro j;by_cases e:j=i
  .subst e;rw[dP];trivial
  .rw [eU e];exact H.p4 j
 .intro j hj;show cy _ _ _ _=_;by_cases e:j=i
  .subst e;rw[cd,dP]
  .rw [a04 Z,eU e];exact H.ph j hj
end
end
end Go.Ev.Sy
namespace Go.Ev.Sy
open Go Go.Ev Go.Proofs
noncomputable section
variable{d i m p sz:Nat}{own ph:aG}{f y:av}{gc:dA}
def mQ(n:Nat)(ph:aG)(p:Nat):Int:=match n with|0=>0|n+1=>mQ n ph p+if ph n=p then 1 else 0
def US(n:Nat)(ph)(p:Nat):0<=mQ n ph p/\mQ n ph p<=n:=by
 induction n with
 |zero=>exact⟨AH _,AH _⟩
 |succ n H=>unfold mQ;omega
def a5b(n:Nat)(ph)(i q p:Nat):mQ n (ib ph i q) p=if i<n then mQ n ph p-(if ph i=p then 1 else 0)+(if q=p then 1 else 0) else mQ n ph p:=by
 induction n with
 |zero=>rfl
 |succ n H=>
  unfold mQ;rw[H];by_cases h:i<n
  .rw [eU Z,ao h,ao (show i<n+1 by omega)];omega
  .rw [aj h];by_cases e:i=n
   .subst e;rw[dP,ao (show i<i+1 by omega)];omega
   .rw [eU (show n≠i by omega),aj (show ¬i<n+1 by omega)]
def a03{n:Nat}{q:Nat}(F:i<n)(N:q≠ph i):AS (mQ n ph) (ph i) q=mQ n (ib ph i q):=by
 funext p;rw[a5b,ao F];unfold AS;by_cases e:p=q
 .subst e;rw[dk,cJ N,aj Z,ao rfl];omega
 .rw [cJ e,aj (show ¬q=p from λh=>e h.symm)];by_cases b:p=ph i
  .subst b;rw[dk,ao rfl];omega
  .rw [cJ b,aj Z];omega
@[grind] def PS(c:Nat):Prop:=c=1\/c=2\/c=21\/c=23\/c=24\/200<=c/\c<400
def jb(own:aG)(f:av)(m sz:Nat)(gc:dA)(i p:Nat):Prop:=
 (gc (i*6)= .ik .u32 0/\gc (i*6+1)= .ik .i32 0/\gc (i*6+4)= .bg/\p=0)\/
 (gc (i*6)= .ik .u32 1/\∃j a,gc (i*6+4)= .ptr j 0/\hJ own (200+i) f m j sz a/\(p=3->∃r w,gc (i*6+5)= .ptr r 0/\pf own (300+i) f m r j w/\w<=sz))
def jb.ah{t:aG}{L:Nat}{P:dF}(h:jb own f m sz gc i p)(q:Fr P own f m t y L)(d:¬P 9)(N:¬P (200+i))(M:¬P (300+i)):jb t y L sz gc i p:=by
 rcases h with h|⟨A,j,a,u,c,F⟩
 .exact .inl h
 .refine .inr ⟨A,j,a,u,c.ah q d N,λe=>?_⟩;obtain⟨r,w,g,k,b⟩:=F e;exact⟨r,w,g,At.ah k q M,b⟩
def jb.to{H:dA}(h:jb own f m sz gc i p)(e:∀j,j<6->H (i*6+j)=gc (i*6+j)):jb own f m sz H i p:=by unfold jb at *;have c:=e 0 I;grind
def VD(own:aG)(f:av)(m sz:Nat)(gc:dA)(i r:Nat):Prop:=∃aEX aF1 w,gc (i*6+5)= .ptr aEX 0/\pf own (300+i) f m aEX aF1 w/\w<=sz/\sz-w<=r
def pf.inj{r aF1 a w w':Nat}(h:pf own d f m r aF1 w)(h':pf own d f m r a w')(l:w<=65536)(b:w'<=65536):aF1=a/\w=w':=by have e:=h.obj.symm.trans h'.obj;injection e with _ _ _ _ _ e;injection e with e;have c:=congrFun e 0;have u:=congrFun e 1;have c:V.ptr aF1 0=V.ptr a 0:=c;have u:Q (w:Int)=Q (w':Int):=u;rw[←yW w Z,←yW w' Z] at u;grind
structure SL where
 a:vD
 ta:FB
 fa:VJ
 cs:dc
@[grind cases] structure i9(own:aG)(f:av)(m S n sz aEY:Nat)(ph:aG)(ow ge:dc)(xs:aI)(A:SL):Prop where
 s:gX own f m S n sz ph (mQ n ph) A.a
 t:jB own f m A.a.T n ow ge A.ta
 fr:lk own f m A.a.F n xs A.fa
 ct:gZ own 24 f m A.a.aF1 4 A.cs
 cs:∀j,0<=A.cs j/\A.cs j<=aEY
 nd:xs.Nodup
 mem:∀i,i∈xs↔i<n/\ph i=0
 ow1:∀i,i<n->ph i=1->1<=ow i
 ow0:∀i,i<n->ph i≠1->ow i=0
 ge:∀i,i<n->0<=ge i/\ge i<=aEY
 cell:∀i,i<n->jb own f m sz A.a.gc i (ph i)
 z1:1<=sz
 z2:sz<=65536
section
variable {own:aG} {f:av} {m S n sz aEY:Nat} {ph:aG} {ow ge:dc} {xs:aI} {A:SL}
def i9.ah{P:dF}{a:aG}{L:Nat}(h:i9 own f m S n sz aEY ph ow ge xs A)(q:Fr P own f m a y L)(g:∀c,PS c->¬P c)(d:¬P 9)(b:¬P 22):i9 a y L S n sz aEY ph ow ge xs A:=
 ⟨h.s.ah q (g _ W),h.t.ah q (g _ W),h.fr.ah q (g _ W) (g _ W) b,h.ct.ah q (g _ W),h.cs,h.nd,h.mem,h.ow1,h.ow0,h.ge,λi F=>(h.cell i F).ah q d (g _ Jx) (g _ Jx),h.z1,h.z2⟩
def gX.agu{b:dc}{a:vD}(h:gX own f m S n sz ph b a)(H)(e:∀j,j<n->H (j*6+3)=a.gc (j*6+3)):gX own (bw f a.cr (.row 287 (n*6) 0 true a.zc (.cf H))) m S n sz ph b {a with gc:=H}:=
 ⟨⟨by rw[aE (h.aS.kv h.ac W)];exact h.aS.obj,h.aS.own,h.aS.lt⟩,⟨aK ..,h.ac.own,h.ac.lt⟩,h.g0,h.g1,h.g2,h.g3,h.g4,h.g8,h.n1,h.p4,λj z=>(e j z).trans (h.ph j z)⟩
def zO{R:Rt}{a:vD}{cs:dc}(H:gX own f m S n sz ph (mQ n ph) a)(d:gZ own 24 f m a.aF1 4 cs)(r:∀j,0<=cs j/\cs j<=aEY)(i:Nat)(g:i<n)(hK:aEY<1048575)(q:Nat)(N:q=(ph i+1)%4):
  Cl R.Y.Y.Y.Y.Y.Y.Y 391 [.ptr S 0,.ptr a.cr (i*6),Q ((ph i:Int)+1)] f m (λv y L=>v=Q 0/\∃t a' lT,gX t y L S n sz (ib ph i q) (mQ n (ib ph i q)) a'/\a'.T=a.T/\a'.F=a.F/\a'.aF1=a.aF1/\a'.cr=a.cr/\a'.gc=cy a.gc (i*6+3) (Q q)/\gZ t 24 y L a.aF1 4 lT/\(∀j,0<=lT j/\lT j<=(aEY+1:Nat))/\Fr (λc=>c=23\/c=24) own f m t y L):=by
 intro k T E;subst N;have x:=H.p4 i;refine(OI H d i g I (λp=>by have:=US n ph p;have:=H.n1;omega) W).go ?_;rintro v o l ⟨rfl,b,⟨s,M⟩,h,P⟩;rw[a03 g Z] at M;refine E _ _ _ ⟨rfl,b,_,_,M,rfl,rfl,rfl,rfl,rfl,h,λj=>?_,P⟩;have:=r j;have:=r (ph i);by_cases e:j=ph i
 .subst e;rw[dk];omega
 .rw [cJ e];omega
end
end
end Go.Ev.Sy
