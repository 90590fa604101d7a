import Derived.Attr
import Derived.KernelRfl
import GoSem.Step
set_option linter.all false
set_option maxRecDepth 100000
section
attribute[go_sem]Nat.reduceAdd Nat.reduceMul Nat.reduceSub Nat.reduceLT Nat.reduceLeDiff Nat.reduceEqDiff Nat.reduceMod Nat.reduceDiv Int.reduceLT Int.reduceLE Int.reduceEq Int.reduceNe Int.reduceToNat reduceCtorEq
def bh:=@Nat.le_of_ble_eq_true
def br:=@Nat.eq_of_beq_eq_true
def bT:=@List.getElem?_eq_getElem
def aj:=@if_neg
def bW:=@Nat.lt_of_lt_of_le
def ao:=@if_pos
def bP:=@Nat.le_refl
def jr:=@List.take_succ_eq_append_getElem
def dB:=@decide_eq_false
def eh:=@Nat.le_succ_of_le
def iL:=@Array.getD_eq_getD_getElem?
def cL:=@Nat.le_trans
def eZ:=@List.length_append
def dT:=@List.length_map
def dI:=@decide_eq_true
def eL:=@List.getElem_mem
def dz:=@Nat.zero_add
def iJ:=@Nat.ble_eq_true_of_le
def ia:=@List.mem_cons_of_mem
def dN:=@Nat.lt_or_ge
def fJ:=@List.mem_append
def jq:=@Array.getElem?_toList
def jm:=@List.getElem_of_mem
def iI:=@Int.toNat_natCast
def mL:=@Array.getElem?_eq_getElem
def pk:=@List.eq_nil_of_length_eq_zero
def fA:=@List.mem_map
def fY:=@List.mem_cons
def jo:=@Option.some.injEq
def fP:=@Nat.beq_refl
def pq:=@List.nodup_iff_pairwise_ne
def iH:=@List.map_append
def iK:=@List.nodup_cons
def ko:=@List.mem_cons_self
def jS:=@List.nodup_append
def j9:=@List.append_nil
def kj:=@List.flatMap_cons
def kg:=@List.length_cons
def mK:=@List.flatMap_append
def nW:=@Nat.mul_le_mul_right
def gC:=@Nat.le_succ
def jn:=@List.map_cons
def lF:=@Bool.and_eq_true
def lG:=@List.not_mem_nil
def j8:=@Nat.add_zero
def j7:=@Nat.sub_zero
def mJ:=@List.take_length
def uH:=@Option.isSome_iff_exists
def mI:=@Option.map_some
def mG:=@List.nil_append
def FV:=@Array.getElem?_setIfInBounds_self_of_lt
def pn:=@of_decide_eq_true
def pj:=@List.append_assoc
def xx:=@List.getD_eq_getElem?_getD
def qE:=@Bool.false_eq_true
def qD:=@Nat.eq_zero_or_pos
def kf:=@Classical.em
def uC:=@List.take_append_drop
def rY:=@List.mem_singleton
def qv:=@Nat.mod_eq_of_lt
def lE:=@List.map_map
def AG:=@List.getElem_concat_length
def rX:=@List.getElem?_map
def kU:=@Nat.zero_le
def FR:=@Array.getElem?_setIfInBounds_ne
def uJ:=@Int.toNat_of_nonneg
def qA:=@Bool.eq_iff_iff
def mH:=@Nat.sub_self
def ke:=@Nat.mod_lt
def uy:=@List.pairwise_cons
def rW:=@List.getElem_map
def uI:=@decide_eq_true_eq
def uA:=@List.pairwise_map
def ux:=@List.getElem_take
def xw:=@Array.length_toList
def AF:=@List.getElem_cons_drop
def uF:=@List.length_take
def uB:=@Option.getD_some
def uK:=@List.all_eq_true
def nV:=@Nat.mul_one
def FU:=@List.mem_or_eq_of_mem_set
def kT:=@and_assoc
def uw:=@Option.map_none
def uG:=@List.length_set
def FT:=@List.getElem_append_left
def qp:=@Nat.zero_mul
def qo:=@Int.lt_or_le
def AD:=@List.getElem_range'
def xu:=@Nat.lt_succ_self
def xr:=@List.mem_flatMap
def FQ:=@List.drop_eq_nil_of_le
def qB:=@Nat.add_mul
def uz:=@Nat.lt_irrefl
def Ol:=@Int.fdiv_eq_ediv_of_nonneg
def Oj:=@Nat.shiftRight_eq_div_pow
def Oi:=@List.extract_eq_take_drop
def On:=@Classical.byContradiction
def Oh:=@List.pairwise_iff_getElem
def Og:=@List.drop_eq_getElem_cons
def AB:=@List.getElem_inj
def Od:=@Bool.eq_false_or_eq_true
def a1d:=@Array.findIdx?_eq_some_iff_getElem
def FM:=@List.getElem?_drop
def AA:=@Nat.div_le_self
def FN:=@Nat.pos_of_ne_zero
def Oq:=@List.getElem?_cons_succ
def FK:=@List.set_cons_zero
def AE:=@List.mem_filter
def Ov:=@List.take_of_length_le
def Oc:=@Option.map_eq_some_iff
def Ob:=@List.getElem_replicate
def FJ:=@List.ext_getElem?
def Az:=@List.mapM_cons
def AI:=@List.nodup_nil
def NX:=@Classical.choose_spec
def Oo:=@List.Perm.append_left
def FO:=@List.cons_append
def NT:=@Array.toList_extract
def Ay:=@Bool.true_and
def uD:=@Array.ext'
def FH:=@Nat.and_le_left
def FL:=@Nat.min_eq_left
def FP:=@List.length_nil
def NS:=@List.map_congr_left
def NR:=@List.filter_sublist
def Ou:=@List.mem_map_of_mem
def a19:=@Nat.le_of_mul_le_mul_right
def a1e:=@List.getElem?_append_right
def a1j:=@Array.getElem?_append_left
def Om:=@List.getElem?_take
def NQ:=@Nat.lt_of_le_of_lt
def NP:=@List.Nodup.sublist
def a1g:=@List.getElem?_append_left
def NO:=@Nat.or_lt_two_pow
def NZ:=@List.reverse_cons
def FG:=@List.map_take
def AH:=@Int.le_refl
def FE:=@Nat.add_assoc
def NH:=@Array.toList_map
def Of:=@Option.bind_some
def NN:=@List.ext_getElem
def NM:=@List.length_drop
def NL:=@List.Sublist.map
def NK:=@List.nodup_range
def Oe:=@List.flatMap_nil
def NU:=@Nat.succ_le_succ
def a18:=@Nat.lt_iff_add_one_le
def a1i:=@Array.getElem?_modify
def a17:=@List.getElem?_toArray
def a1k:=@List.getElem?_eq_none
def a16:=@List.eq_nil_or_concat
def a1c:=@List.concat_eq_append
def a1b:=@List.length_filter_le
def a1f:=@List.length_replicate
def a1h:=@List.length_singleton
def a0Z:=@List.set_append_right
def a1a:=@List.getElem_set_self
def NJ:=@Int.negSucc_eq
def NI:=@List.drop_drop
def NY:=@List.mem_range
def NV:=@Nat.succ_mul
def NW:=@Nat.ne_of_lt
variable{p:Prop}
def Z(h:p:=by omega):=h
def E1(h:p:=by first|exact Nat.le_refl _|(unfold pl;omega)):=h
def E2(h:p:=by first|omega|(unfold pl;omega)|(unfold pl at *;omega)):=h
def W(h:p:=by grind):=h
def G(h:p:=by trivial):=h
def I(h:p:=by decide):=h
def E6(h:p:=by exact zC):=h
def E7(h:p:=by kernel_rfl):=h
def E8(h:p:=by first|omega|(unfold pl;omega)):=h
def E9(h:p:=by first|exact Nat.le_refl _|(unfold pl;omega)|(have:=(p).le;unfold pl at *;omega)):=h
def J0(h:p:=by first|exact Nat.le_refl _|(unfold pl;omega)|(have:=(P).le;unfold pl at *;omega)):=h
def J1(h:p:=by simp):=h
def J2(h:p:=by rw[sA];omega):=h
def J3(h:p:=by rw[j];exact aK ..):=h
def J4(h:p:=by simp only[List.mem_cons,List.not_mem_nil,or_false] at L;rcases L with rfl|rfl<;>exact iW _):=h
def J5(h:p:=by simp[Op.operands]):=h
def J6(h:p:=by first|exact Nat.le_refl _|(unfold pl;omega)|(have:=(o).le;unfold pl at *;omega)):=h
def J7(h:p:=by first|exact Nat.lt_irrefl _|(unfold pl at *;omega)):=h
def J8(h:p:=by have:=H.aM.lt;unfold pl;omega):=h
def J9(h:p:=by rcases hw with rfl|⟨_,_,_,_,rfl⟩<;>rfl):=h
def O0(h:p:=by rcases h with⟨rfl,_⟩|⟨_,_,_,_,_,_,_,_,rfl,_⟩<;>rfl):=h
def O1(h:p:=by unfold PB;omega):=h
def O2(h:p:=by rw[hF];exact aK ..):=h
def O3(h:p:=by have:=H.aM.lt;omega):=h
def O4(h:p:=by rw[L];simp):=h
def O5(h:p:=by rw[Dq];exact zC):=h
def O6(h:p:=by unfold pl;omega):=h
def O7(h:p:=by rw[hF];exact zC):=h
def O8(h:p:=by have:=H.n1;omega):=h
def O9(h:p:=by rcases List.mem_append.1 p with p|p;exact xb3 y p;rw[List.mem_singleton.1 p];exact hn9):=h
def Q0(h:p:=by rw[j];exact zC):=h
def Q3(h:p:=by first|exact Nat.le_refl _|(unfold pl;omega)|(have:=(x).le;unfold pl at *;omega)):=h
def Q4(h:p:=by first|exact Nat.le_refl _|(unfold pl;omega)|(have:=(q).le;unfold pl at *;omega)):=h
def Q5(h:p:=by first|exact Nat.le_refl _|(unfold pl;omega)|(have:=(n).le;unfold pl at *;omega)):=h
def Q6(h:p:=by rcases H.T with⟨rfl,_⟩|⟨_,_,_,_,_,_,_,_,rfl,_⟩<;>rfl):=h
def Q7(h:p:=by simp only[eb,Bool.and_eq_true] at h ⊢;exact⟨pe a h.1,pe b h.2⟩):=h
def Q8(h:p:=by cases h):=h
def T4(h:p:=by have:=P.le;unfold pl at this;omega):=h
def T5(h:p:=by rw[aE g];exact o.ah x S):=h
def T6(h:p:=by simp[dO,p,F,s]):=h
def T9(h:p:=by refine zS ?_;rfl):=h
def V0(h:p:=by unfold PQ;omega):=h
def V3(h:p:=by rw[List.length_append];exact Nat.le_refl _):=h
def V4(h:p:=by unfold GB;omega):=h
def V5(h:p:=by first|exact Nat.le_refl _|(unfold pl;omega)|(have:=(Ei).le;unfold pl at *;omega)):=h
def V6(h:p:=by first|exact Nat.le_refl _|(unfold pl;omega)|(have:=(q12).le;unfold pl at *;omega)):=h
def V7(h:p:=by first|exact Nat.le_refl _|(unfold pl;omega)|(have:=(q1).le;unfold pl at *;omega)):=h
def V8(h:p:=by first|exact Nat.le_refl _|(unfold pl;omega)|(have:=(i).le;unfold pl at *;omega)):=h
def V9(h:p:=by first|omega|exact fun _=>N.own|exact fun _=>.inl N.own|exact fun _=>.inr N.own):=h
def X0(h:p:=by rcases H.M with⟨rfl,_⟩|⟨_,_,_,_,_,_,_,_,rfl,_⟩<;>rfl):=h
def X2(h:p:=by rw[jM g1,g2]):=h
def X3(h:p:=by rcases hw with⟨rfl,_⟩|⟨_,_,_,_,_,_,_,_,rfl,_⟩<;>rfl):=h
def X4(h:p:=by unfold PS;omega):=h
def X5(h:p:=by rcases l with⟨rfl,_⟩|⟨_,_,_,_,_,_,_,_,rfl,_⟩<;>rfl):=h
def X6(h:p:=by rw[hG];exact zC):=h
def X7(h:p:=by simp only[go_sem,u,b];trivial):=h
def X8(h:p:=by rw[hG];exact aK ..):=h
def X9(h:p:=by simp only[eb] at h ⊢;exact pe b h):=h
def Z0(h:p:=by simp[Region.wanted,p,A]):=h
def Z6(h:p:=by simp[execOp,L,Instr.loadAt,H,Instr.sureAddr,loadVar,pK M,n,F]):=h
def Z7(h:p:=by cases b<;>first|rfl|trivial):=h
def Z8(h:p:=by rw[zj F,List.getElem?_eq_getElem q]):=h
def Z9(h:p:=by unfold qk at hr;omega):=h
def Y0(h:p:=by rw[j];refine zS ?_;rfl):=h
def Y1(h:p:=by unfold PR PS at h;unfold PB;omega):=h
def Y2(h:p:=by have:=P.le;unfold pl;omega):=h
def Y3(h:p:=by unfold PD PR PS;omega):=h
def Y4(h:p:=by have:=g.tsp t o;omega):=h
def Y5(h:p:=by rcases List.mem_append.1 H with H|H;exact YJ v H;exact h1 v H):=h
def Y6(h:p:=by simp;omega):=h
def Y7(h:p:=by unfold LB;omega):=h
def Y8(h:p:=by have:=(g.bi.El p).2.1;omega):=h
def Y9(h:p:=by rcases List.mem_cons.1 h with rfl|h;exact F;exact H.lt x h):=h
def W0(h:p:=by simp[Op.operands];grind):=h
def W1(h:p:=by rw[j];simp only[go_sem]):=h
def W3(h:p:=by unfold PR PS at h;omega):=h
def W4(h:p:=by have:=g.gen p;omega):=h
def W5(h:p:=by have:=Dx.le;have:=p.le;have:=q2.le;unfold pl at *;omega):=h
def W8(h:p:=by have:=Ei.le;unfold pl;omega):=h
def W9(h:p:=by rw[r8];unfold cm pl;simp):=h
def U0(h:p:=by have:fB b.op p true q=true:=N;rwa [dn e] at this):=h
def U1(h:p:=by have:=(r.pW i D F).1;omega):=h
def U2(h:p:=by rw[f];rfl):=h
def U3(h:p:=by have:=h2.lt;unfold pl;omega):=h
def U4(h:p:=by unfold PR PS;omega):=h
def U5(h:p:=by have:=q1.le;unfold pl at this;omega):=h
def U6(h:p:=by have:=q4.le;unfold pl at this;omega):=h
def U7(h:p:=by simp only[go_sem]):=h
def U8(h:p:=by rw[h]):=h
def U9(h:p:=by unfold PR PS at h;unfold PQ;omega):=h
def S7(h:p:=by simp[binOp,Op.intCmp,k8,a3K,←Int.not_le]):=h
def S8(h:p:=by rw[hF];simp only[go_sem];trivial):=h
def R0(h:p:=by have:=H.am.lt;omega):=h
def R1(h:p:=by rw[aE hn];exact q.ah x hx):=h
def R2(h:p:=by show x::jU (a++b)=_;rw[uQ a b];rfl):=h
def R4(h:p:=by simp[uO,H,asAddr,loadVar,pK i3,n,F]):=h
def R5(h:p:=by rw[e];exact aK ..):=h
def R6(h:p:=by rw[e];simp only[go_sem]):=h
def R7(h:p:=by rcases a4h with⟨h,_⟩|⟨c,l,_,_,_,h,_⟩<;>rw[h]):=h
def R8(h:p:=by simpa using h):=h
def P5(h:p:=by rw[p];rfl):=h
def P6(h:p:=by simp[binOp,Op.intBits]):=h
def P7(h:p:=by rw[hF5];simp only[go_sem,KN,Nx.symm,zD]):=h
def P8(h:p:=by unfold PBr PR PS PV at F;unfold PZ PF;omega):=h
def P9(h:p:=by rw[hF5];simp only[go_sem,XG,n1.symm,zE]):=h
def N0(h:p:=by rw[hF5];simp only[go_sem,PC,n2.symm,DQ]):=h
def N3(h:p:=by unfold cO;omega):=h
def N4(h:p:=by have:=g.hKp;omega):=h
def N7(h:p:=by rw[List.length_append,Dn,zy,Nat.add_mul]):=h
def N8(h:p:=by rw[←dx];exact Nat.le_of_ble_eq_true l):=h
def N9(h:p:=by rw[S];exact zC):=h
def M6(h:p:=by unfold PS at hc;omega):=h
def M7(h:p:=by have:=Dx.le;have:=p.le;have:=q2.le;omega):=h
def M8(h:p:=by have:=(y.pW i D F).1;omega):=h
def M9(h:p:=by rw[H]):=h
def L5(h:p:=by have:=h.le;omega):=h
def L6(h:p:=by have:=H.l1;omega):=h
def L7(h:p:=by unfold PF;decide):=h
def L8(h:p:=by unfold ND;grind):=h
def K6(h:p:=by have:=g.hK;omega):=h
def K7(h:p:=by simp[binOp,Op.stringOp,beq_toListBytes]):=h
def K8(h:p:=by have:=(H.gr P).aA.lt;omega):=h
def K9(h:p:=by have:=A.lt;unfold pl;omega):=h
def I8(h:p:=by cases r with|none=>rfl|some r=>trivial):=h
def I9(h:p:=by have:=H.aB.lt;omega):=h
def G0(h:p:=by unfold cm pl;simp):=h
def G1(h:p:=by rw[Ty];trivial):=h
def G2(h:p:=by rw[tW];exact aK ..):=h
def G3(h:p:=by rw[ets];exact Nat.le_succ_of_le g.tsl):=h
def G4(h:p:=by have h:=H.at z;unfold TkR at *;grind):=h
def G5(h:p:=by have:=g.tg p;omega):=h
def G6(h:p:=by rw[ets] at ht;have:=g.tsp t ht;omega):=h
def G7(h:p:=by show n<2^64;unfold cO at hn;omega):=h
def G8(h:p:=by simp[ext1]):=h
def G9(h:p:=by rw[a];exact zC):=h
def F7(h:p:=by have:=qx.le;unfold pl at this;omega):=h
def D1(h:p:=by simp[binOp,Op.intArith]):=h
def D3(h:p:=by show m<2^64;unfold cO at R;omega):=h
def D5(h:p:=by rw[he] at yi;simp[V.de] at yi):=h
def D6(h:p:=by have:=q2.le;omega):=h
def D7(h:p:=by unfold kN;omega):=h
def D8(h:p:=by unfold PGr;decide):=h
def D9(h:p:=by have:=h.l;trivial):=h
def C0(h:p:=by rw[j,aE n12];exact aK ..):=h
def C3(h:p:=by unfold PZ PF at F;unfold PDo;omega):=h
def C9(h:p:=by rw[xz];exact hw):=h
def B5(h:p:=by unfold cO at h;grind):=h
def B6(h:p:=by simp only[aK,aE C.symm]):=h
def B7(h:p:=by show a1.M<pl m1 1;unfold pl;omega):=h
def B8(h:p:=by unfold VG PR PS;omega):=h
def B9(h:p:=by cases b<;>rfl):=h
def A7(h:p:=by rw[←d.1];exact R):=h
def A8(h:p:=by cases q<;>decide):=h
def A9(h:p:=by have:=q4.le;unfold pl at *;omega):=h
def Ja(h:p:=by have:=g.hd;omega):=h
def Jb(h:p:=by rw[xz];trivial):=h
def Jc(h:p:=by rw[D.siz];exact S.Fj i t mO g):=h
def Jd(h:p:=by have:=P.le;unfold pl at *;omega):=h
def Je(h:p:=by rw[hle i (Nat.le_refl _)];omega):=h
def Jf(h:p:=by unfold PB at h;unfold PAs;omega):=h
def Jg(h:p:=by unfold PQ at h;unfold PAs;omega):=h
def Jh(h:p:=by rw[jM A,N]):=h
def Ji(h:p:=by unfold ext1;rw[if_pos rfl];rfl):=h
def Jj(h:p:=by unfold eqGuard;cases op<;>simp):=h
def Jk(h:p:=by unfold enc;rw[List.length_map]):=h
def Jl(h:p:=by rw[aE d,aE e5];trivial):=h
def Jm(h:p:=by show aF1<pl m1 1;unfold pl;omega):=h
def Jn(h:p:=by have:=h.l;omega):=h
def Jo(h:p:=by rw[List.length_append,M,hl,C]):=h
def Jp(h:p:=by have:=H.am.lt;unfold pl;omega):=h
def Jq(h:p:=by obtain⟨a,b,_⟩:=h.nx g H;grind):=h
def Jr(h:p:=by rw[aE g];exact q.ah x S):=h
def Js(h:p:=by rw[D.bI];exact mO):=h
def Jt(h:p:=by have:=A.aB.lt;omega):=h
def Ju(h:p:=by rw[nK];omega):=h
def Jv(h:p:=by simp[binOp,Op.intCmp,a3K]):=h
def Jw(h:p:=by rw[Am.2 F] at N;trivial):=h
def Jx(h:p:=by have:=h.s.n1;unfold PS;omega):=h
def Jy(h:p:=by have:=H.s.n1;unfold PS;omega):=h
def Jz(h:p:=by rw[yw];exact mh _ _):=h
def Xa(h:p:=by rw[b] at e;trivial):=h
def Xb(h:p:=by have:=(y.pW i D b).1;omega):=h
def Xc(h:p:=by rw[←(E.eq t g F).2];trivial):=h
def Xd(h:p:=by rw[jM g1,g2,Co]):=h
def Xe(h:p:=by simpa [Op.operands] using S):=h
def Xf(h:p:=by rw[←j];exact AU r x S):=h
def Xg(h:p:=by cases e;exact Nat.le_refl _):=h
def Xh(h:p:=by have:=H.rc j;grind):=h
def Xi(h:p:=by have:=qT.le;unfold pl;omega):=h
def Xj(h:p:=by rw[vQ];omega):=h
def Xk(h:p:=by unfold PBr PR PS at h;omega):=h
def Xl(h:p:=by have:=aH.lt;unfold pl;omega):=h
def Xm(h:p:=by simpa using H):=h
def Xn(h:p:=by simpa using M):=h
def Xo(h:p:=by have:=h.le;unfold pl;omega):=h
def Xp(h:p:=by cases x<;>rfl):=h
def Xq(h:p:=by rw[List.length_take];omega):=h
def Xr(h:p:=by have:=(H.gr P).am.lt;omega):=h
def Xs(h:p:=by rw[xo,aE nm2];trivial):=h
def Xt(h:p:=by rw[xo,aE n12];trivial):=h
def Xu(h:p:=by unfold zH;grind):=h
def Xv(h:p:=by rw[xo];exact aK ..):=h
def Xw(h:p:=by simp only[go_sem];trivial):=h
def Xx(h:p:=by rw[xo,aE e1];exact t):=h
def Xy(h:p:=by rw[hFF];exact aK ..):=h
def Xz(h:p:=by rw[xm];exact aK ..):=h
def Za(h:p:=by rw[←d.1];exact q):=h
def Zb(h:p:=by rw[←A.1];trivial):=h
def Zc(h:p:=by rw[←ho.1,Dn,g2]):=h
def Zd(h:p:=by simp only[go_sem,A.symm]):=h
def Ze(h:p:=by rw[A.own];exact .inl rfl):=h
def Zf(h:p:=by simp[execOp,L,A,asBool]):=h
def Zg(h:p:=by simp[binOp,Op.intDiv,g]):=h
def Zh(h:p:=by rw[cell_of h4];exact h6):=h
def Zi(h:p:=by have:=H.keys p hp;omega):=h
def Zj(h:p:=by rw[a];exact aK ..):=h
def Zk(h:p:=by rw[hF,aE u];trivial):=h
def Zl(h:p:=by simp only[go_sem];grind):=h
def Zm(h:p:=by rw[wF];unfold pl;omega):=h
def Zn(h:p:=by simp at h):=h
def Zo(h:p:=by simpa using hoc):=h
def Zp(h:p:=by unfold jQ;simp):=h
def Zq(h:p:=by simpa using Uw):=h
def Zr(h:p:=by unfold cO at h;omega):=h
def Zs(h:p:=by rw[g.ah i N];trivial):=h
def Zt(h:p:=by have:=Z1.H.aM.lt;omega):=h
def Zu(h:p:=by rw[oM];unfold PV;omega):=h
def Zv(h:p:=by simpa using f2):=h
def Zw(h:p:=by rw[←u];exact F):=h
def Zx(h:p:=by rw[e0]):=h
def Zy(h:p:=by rw[p];trivial):=h
def Zz(h:p:=by rw[if_pos d]):=h
def Qa(h:p:=by rw[if_neg d]):=h
def Qb(h:p:=by rw[LO];rfl):=h
def Qc(h:p:=by repeat (first|exact B.refl _ _|refine B.bw ?_ Z)):=h
def Qd(h:p:=by repeat (first|exact B.refl _ _|refine B.bw ?_ E8)):=h
def Qe(h:p:=by repeat (first|exact B.refl _ _|refine B.bw ?_ E1)):=h
def Qf(h:p:=by rw[cB Z];rfl):=h
def Qg(h:p:=by first|exact fun h=>absurd h E2|exact fun _=>agW ao2):=h
def Qh(h:p:=by first|exact fun h=>absurd h E2|exact fun _=>.inl (oz3 _ E2 E2)|exact fun _=>.inr Dr.own):=h
def Qi(h:p:=by first|exact fun h=>absurd h J7|exact fun _=>H.an.own|exact fun _=>.inl H.an.own|exact fun _=>.inr H.an.own|exact fun _=>H.al.own|exact fun _=>.inl H.al.own|exact fun _=>.inr H.al.own):=h
def Qj(h:p:=by first|exact fun h=>absurd h E2|exact fun _=>.inl (oz4 _ E2 E2)|exact fun _=>.inr Av.own):=h
def Qk(h:p:=by repeat (first|exact p|refine B.bw ?_ E9)):=h
def Ql(h:p:=by rw[cB Z];omega):=h
def Qm(h:p:=by rw[oz3 _ E2 E2];decide):=h
def Qn(h:p:=by repeat (first|exact P|refine B.bw ?_ J0)):=h
def Qo(h:p:=by repeat (first|exact o|refine B.bw ?_ J6)):=h
def Qp(h:p:=by rw[a04 Z,a04 Z];trivial):=h
def Qq(h:p:=by first|exact fun h=>absurd h J7|exact fun _=>y.own|exact fun _=>.inl y.own|exact fun _=>.inr y.own):=h
def Qr(h:p:=by rw[q.eq x (Nat.lt_of_lt_of_le S h.gr.le) W];exact h.gr.ah x S):=h
def Qs(h:p:=by split<;>rename_i h;exact Nat.mod_eq_of_lt h;rw[Nat.mod_eq_sub_mod Z,Nat.mod_eq_of_lt Z]):=h
def Qt(h:p:=by first|exact fun h=>absurd h E2|exact fun _=>.inl (oz5 _ E2 E2)|exact fun _=>.inr aH5.own):=h
def Qu(h:p:=by repeat (first|exact x|refine B.bw ?_ Q3)):=h
def Qv(h:p:=by rw[aE Z,aE Z,aE Z];exact Ei.ah y p):=h
def Qw(h:p:=by rw[P.ah (pl m 1) W,j];exact zC):=h
def Qx(h:p:=by rw[aE Z,aE Z,aE Z]):=h
def Qy(h:p:=by rw[oz4 _ E2 E2];decide):=h
def Qz(h:p:=by repeat (first|exact q|refine B.bw ?_ Q4)):=h
def Va(h:p:=by rcases h with⟨rfl,_⟩|⟨_,_,_,_,_,_,_,_,rfl,_⟩<;>exact fun h=>Q8):=h
def Vb(h:p:=by rw[List.length_append,List.map_append];exact Uq.ah qG I):=h
def Vc(h:p:=by rw[List.length_append,List.map_append];exact hn5.ah qG I):=h
def Vd(h:p:=by rw[p];exact Nat.ble_eq_true_of_le Z):=h
def Ve(h:p:=by have:=P.le;rw[aE Z,aE Z];exact P.ah y p):=h
def Vf(h:p:=by rw[a04 Z];trivial):=h
def Vg(h:p:=by and_intros<;>exact aqW E7 x):=h
def Vh(h:p:=by repeat (first|exact n|refine B.bw ?_ Q5)):=h
def Vi(h:p:=by rw[ry Z];omega):=h
def Vj(h:p:=by rw[q.ah i N W];trivial):=h
def Vk(h:p:=by repeat (first|rfl|rw[aE Z])):=h
def Vl(h:p:=by rw[GF,if_neg (fun h=>W)]):=h
def Vm(h:p:=by rw[P.ah m W,j];exact zC):=h
def Vn(h:p:=by rw[tW];exact aE W ..):=h
def Vo(h:p:=by rw[xo];exact I1.gr.bw W):=h
def Vp(h:p:=by rw[a04 Z,a04 Z]):=h
def Vq(h:p:=by rw[q4.same x W];trivial):=h
def Vr(h:p:=by rw[←E];exact W):=h
def Vt(h:p:=by rw[a04 Z]):=h
def Vu(h:p:=by rw[j];exact(B.w (m2:=m) Qd E1)):=h
def Vv(h:p:=by rw[j];exact(B.w (m2:=m) Qc E1)):=h
def Vw(h:p:=by rw[hF];exact(B.w (m2:=m) Qc E1)):=h
def Vx(h:p:=by repeat (first|exact Fr.refl _ _ _ _|refine Fr.bw ?_ Qi)):=h
def Vy(h:p:=by rw[hF];exact(B.w (m2:=m) Qd E1)):=h
def Vz(h:p:=by rw[j];exact(B.w (m2:=C) Qc E1)):=h
def Wa(h:p:=by repeat (first|exact Fr.refl _ _ _ _|refine Fr.bw ?_ Qq)):=h
def Wb(h:p:=by rw[j];exact(B.w (m2:=m) Qe E1)):=h
def Wc(h:p:=by rw[xo];exact(B.w (m2:=m1) Qc E1)):=h
def Wd(h:p:=by rw[xo];exact(B.w (m2:=l) Qc E1)):=h
def We(h:p:=by rw[tW];exact(B.w (m2:=C) Qc E1)):=h
def Wg(h:p:=by rw[xm];exact(B.w (m2:=E) Qe E1)):=h
def Wh(h:p:=by rw[hF];exact(B.w (m2:=l) Qc E1)):=h
def Wi(h:p:=by rw[hF];exact(B.w (m2:=l) Qd E1)):=h
def Wj(h:p:=by rw[hF];exact(B.w (m2:=m) Qe E1)):=h
def Wl(h:p:=by rw[a];exact(B.w (m2:=m) Qd E1)):=h
def Wm(h:p:=by rw[show (i:Int).tdiv 64=((i/64:Nat):Int) from rfl,show i/64=0 by omega];rfl):=h
def Wn(h:p:=by rw[show (i:Int).tmod 64=((i%64:Nat):Int) from rfl,show i%64=i by omega]):=h
end
def zS{p q:Prop}(x:q)(h:p=q:=by simp only[go_sem, *];exact rfl):p:=h▸x
def zC{p:Prop}(h:p:=by simp only[go_sem, *]):p:=h
namespace Go.Ev
structure dj(α:Type):Type where
 a0:α
 a1:α
 a2:α
 a3:α
 a4:α
 a5:α
 a6:α
 a7:α
 a8:α
 a9:α
 a10:α
 a11:α
 a12:α
 a13:α
 a14:α
 a15:α
structure DT:Type 1 where
 get:(α:Type)->α->dj α->α
 put:(α:Type)->α->dj α->(dj α->Bool)->Bool
inductive Cp where
 |known (n:Nat)
 |less (d z:Nat)
instance:Inhabited Cp:=⟨.known 0⟩
inductive V where
 |undef
 |bool (b:Bool)
 |num (n:Nat)
 |ik (k:IntKind) (n:Int)
 |str (s:List Nat)
 |bg
 |ptr (i o:Nat)
 |iP (g o:Nat)
 |au
 |sl (i o n:Nat) (c:Cp)
 |z8
 |fR
 |map (i:Nat)
 |fn (f:Nat) (first cap:List V)
 |yield (i:Nat)
 |fN
 |iface (t:Nat) (v:V)
 |xV
 |agg (cs:List V)
 |cI (cs:List V)
instance:Inhabited V:=⟨.undef⟩
abbrev aI:=List Nat
abbrev aG:=Nat->Nat
abbrev bs:=Nat->Bool
abbrev dF:=Nat->Prop
abbrev dc:=Nat->Int
abbrev dC:=List Int
abbrev ay:=List V
abbrev aY:=V->Bool
abbrev dA:=Nat->V
noncomputable def anz:DT:=⟨λ_ _ s=>s.a0,λα v s k=>dj.rec (motive:=λ_=>Bool) (λb0 b1 b2 b3 b4 b5 b6 b7 b8 b9 vK vJ vI vH vG vF=>k ⟨v,b1,b2,b3,b4,b5,b6,b7,b8,b9,vK,vJ,vI,vH,vG,vF⟩) s⟩
noncomputable def anx:DT:=⟨λ_ _ s=>s.a1,λα v s k=>dj.rec (motive:=λ_=>Bool) (λb0 b1 b2 b3 b4 b5 b6 b7 b8 b9 vK vJ vI vH vG vF=>k ⟨b0,v,b2,b3,b4,b5,b6,b7,b8,b9,vK,vJ,vI,vH,vG,vF⟩) s⟩
noncomputable def anw:DT:=⟨λ_ _ s=>s.a2,λα v s k=>dj.rec (motive:=λ_=>Bool) (λb0 b1 b2 b3 b4 b5 b6 b7 b8 b9 vK vJ vI vH vG vF=>k ⟨b0,b1,v,b3,b4,b5,b6,b7,b8,b9,vK,vJ,vI,vH,vG,vF⟩) s⟩
noncomputable def anv:DT:=⟨λ_ _ s=>s.a3,λα v s k=>dj.rec (motive:=λ_=>Bool) (λb0 b1 b2 b3 b4 b5 b6 b7 b8 b9 vK vJ vI vH vG vF=>k ⟨b0,b1,b2,v,b4,b5,b6,b7,b8,b9,vK,vJ,vI,vH,vG,vF⟩) s⟩
noncomputable def anu:DT:=⟨λ_ _ s=>s.a4,λα v s k=>dj.rec (motive:=λ_=>Bool) (λb0 b1 b2 b3 b4 b5 b6 b7 b8 b9 vK vJ vI vH vG vF=>k ⟨b0,b1,b2,b3,v,b5,b6,b7,b8,b9,vK,vJ,vI,vH,vG,vF⟩) s⟩
noncomputable def ant:DT:=⟨λ_ _ s=>s.a5,λα v s k=>dj.rec (motive:=λ_=>Bool) (λb0 b1 b2 b3 b4 b5 b6 b7 b8 b9 vK vJ vI vH vG vF=>k ⟨b0,b1,b2,b3,b4,v,b6,b7,b8,b9,vK,vJ,vI,vH,vG,vF⟩) s⟩
noncomputable def ans:DT:=⟨λ_ _ s=>s.a6,λα v s k=>dj.rec (motive:=λ_=>Bool) (λb0 b1 b2 b3 b4 b5 b6 b7 b8 b9 vK vJ vI vH vG vF=>k ⟨b0,b1,b2,b3,b4,b5,v,b7,b8,b9,vK,vJ,vI,vH,vG,vF⟩) s⟩
noncomputable def anr:DT:=⟨λ_ _ s=>s.a7,λα v s k=>dj.rec (motive:=λ_=>Bool) (λb0 b1 b2 b3 b4 b5 b6 b7 b8 b9 vK vJ vI vH vG vF=>k ⟨b0,b1,b2,b3,b4,b5,b6,v,b8,b9,vK,vJ,vI,vH,vG,vF⟩) s⟩
noncomputable def anq:DT:=⟨λ_ _ s=>s.a8,λα v s k=>dj.rec (motive:=λ_=>Bool) (λb0 b1 b2 b3 b4 b5 b6 b7 b8 b9 vK vJ vI vH vG vF=>k ⟨b0,b1,b2,b3,b4,b5,b6,b7,v,b9,vK,vJ,vI,vH,vG,vF⟩) s⟩
noncomputable def anp:DT:=⟨λ_ _ s=>s.a9,λα v s k=>dj.rec (motive:=λ_=>Bool) (λb0 b1 b2 b3 b4 b5 b6 b7 b8 b9 vK vJ vI vH vG vF=>k ⟨b0,b1,b2,b3,b4,b5,b6,b7,b8,v,vK,vJ,vI,vH,vG,vF⟩) s⟩
noncomputable def agC:DT:=⟨λ_ _ s=>s.a10,λα v s k=>dj.rec (motive:=λ_=>Bool) (λb0 b1 b2 b3 b4 b5 b6 b7 b8 b9 vK vJ vI vH vG vF=>k ⟨b0,b1,b2,b3,b4,b5,b6,b7,b8,b9,v,vJ,vI,vH,vG,vF⟩) s⟩
noncomputable def agB:DT:=⟨λ_ _ s=>s.a11,λα v s k=>dj.rec (motive:=λ_=>Bool) (λb0 b1 b2 b3 b4 b5 b6 b7 b8 b9 vK vJ vI vH vG vF=>k ⟨b0,b1,b2,b3,b4,b5,b6,b7,b8,b9,vK,v,vI,vH,vG,vF⟩) s⟩
noncomputable def agA:DT:=⟨λ_ _ s=>s.a12,λα v s k=>dj.rec (motive:=λ_=>Bool) (λb0 b1 b2 b3 b4 b5 b6 b7 b8 b9 vK vJ vI vH vG vF=>k ⟨b0,b1,b2,b3,b4,b5,b6,b7,b8,b9,vK,vJ,v,vH,vG,vF⟩) s⟩
noncomputable def agz:DT:=⟨λ_ _ s=>s.a13,λα v s k=>dj.rec (motive:=λ_=>Bool) (λb0 b1 b2 b3 b4 b5 b6 b7 b8 b9 vK vJ vI vH vG vF=>k ⟨b0,b1,b2,b3,b4,b5,b6,b7,b8,b9,vK,vJ,vI,v,vG,vF⟩) s⟩
noncomputable def agy:DT:=⟨λ_ _ s=>s.a14,λα v s k=>dj.rec (motive:=λ_=>Bool) (λb0 b1 b2 b3 b4 b5 b6 b7 b8 b9 vK vJ vI vH vG vF=>k ⟨b0,b1,b2,b3,b4,b5,b6,b7,b8,b9,vK,vJ,vI,vH,v,vF⟩) s⟩
noncomputable def agx:DT:=⟨λ_ _ s=>s.a15,λα v s k=>dj.rec (motive:=λ_=>Bool) (λb0 b1 b2 b3 b4 b5 b6 b7 b8 b9 vK vJ vI vH vG vF=>k ⟨b0,b1,b2,b3,b4,b5,b6,b7,b8,b9,vK,vJ,vI,vH,vG,v⟩) s⟩
def a20:DT:=⟨λ_ d _=>d,λ_ _ _ _=>false⟩
noncomputable def a7g:List DT:=[anz,anx,anw,anv,anu,ant,ans,anr,anq,anp,agC,agB,agA,agz,agy,agx]
def a3e:List DT->Nat->DT
 |[],_=>a20
 |x::r,n=>cond (Nat.beq n 0) x (a3e r (Nat.sub n 1))
noncomputable def mE (n:Nat):DT:=a3e a7g n
def bY(α:Type)(x:α):dj α:=⟨x,x,x,x,x,x,x,x,x,x,x,x,x,x,x,x⟩
noncomputable def V.ja (v:V):(Bool->Bool)->Bool:=V.rec (motive_1:=λ_=>(Bool->Bool)->Bool) (motive_2:=λ_=>Unit)
 (λk=>false)
 (λb k=>k b)
 (λ_ k=>false)
 (λ_ _ k=>false)
 (λ_ k=>false)
 (λk=>false)
 (λ_ _ k=>false)
 (λ_ _ k=>false)
 (λk=>false)
 (λ_ _ _ _ k=>false)
 (λk=>false)
 (λk=>false)
 (λ_ k=>false)
 (λ_ _ _ _ _ k=>false)
 (λ_ k=>false)
 (λk=>false)
 (λ_ _ _ k=>false)
 (λk=>false)
 (λ_ _ k=>false)
 (λ_ _ k=>false)
 () (λ_ _ _ _=>()) v
noncomputable def V.wc (v:V):bs->Bool:=V.rec (motive_1:=λ_=>bs->Bool) (motive_2:=λ_=>Unit)
 (λq=>false)
 (λ_ q=>false)
 (λn q=>q n)
 (λ_ _ q=>false)
 (λ_ q=>false)
 (λq=>false)
 (λ_ _ q=>false)
 (λ_ _ q=>false)
 (λq=>false)
 (λ_ _ _ _ q=>false)
 (λq=>false)
 (λq=>false)
 (λ_ q=>false)
 (λ_ _ _ _ _ q=>false)
 (λ_ q=>false)
 (λq=>false)
 (λ_ _ _ q=>false)
 (λq=>false)
 (λ_ _ q=>false)
 (λ_ _ q=>false)
 () (λ_ _ _ _=>()) v
noncomputable def V.a7G (v:V):(IntKind->Int->Bool)->Bool:=V.rec (motive_1:=λ_=>(IntKind->Int->Bool)->Bool) (motive_2:=λ_=>Unit)
 (λq=>false)
 (λ_ q=>false)
 (λ_ q=>false)
 (λk n q=>q k n)
 (λ_ q=>false)
 (λq=>false)
 (λ_ _ q=>false)
 (λ_ _ q=>false)
 (λq=>false)
 (λ_ _ _ _ q=>false)
 (λq=>false)
 (λq=>false)
 (λ_ q=>false)
 (λ_ _ _ _ _ q=>false)
 (λ_ q=>false)
 (λq=>false)
 (λ_ _ _ q=>false)
 (λq=>false)
 (λ_ _ q=>false)
 (λ_ _ q=>false)
 () (λ_ _ _ _=>()) v
noncomputable def V.ec (v:V):(IntKind->Int->Bool)->Bool:=V.rec (motive_1:=λ_=>(IntKind->Int->Bool)->Bool) (motive_2:=λ_=>Unit)
 (λq=>false)
 (λ_ q=>false)
 (λn q=>q .i64 (.ofNat n))
 (λk n q=>q k n)
 (λ_ q=>false)
 (λq=>false)
 (λ_ _ q=>false)
 (λ_ _ q=>false)
 (λq=>false)
 (λ_ _ _ _ q=>false)
 (λq=>false)
 (λq=>false)
 (λ_ q=>false)
 (λ_ _ _ _ _ q=>false)
 (λ_ q=>false)
 (λq=>false)
 (λ_ _ _ q=>false)
 (λq=>false)
 (λ_ _ q=>false)
 (λ_ _ q=>false)
 () (λ_ _ _ _=>()) v
noncomputable def V.rL (v:V):bs->(Bool)->Bool:=V.rec (motive_1:=λ_=>bs->(Bool)->Bool) (motive_2:=λ_=>Unit)
 (λq d=>d)
 (λ_ q d=>d)
 (λn q d=>q n)
 (λ_ _ q d=>d)
 (λ_ q d=>d)
 (λq d=>d)
 (λ_ _ q d=>d)
 (λ_ _ q d=>d)
 (λq d=>d)
 (λ_ _ _ _ q d=>d)
 (λq d=>d)
 (λq d=>d)
 (λ_ q d=>d)
 (λ_ _ _ _ _ q d=>d)
 (λ_ q d=>d)
 (λq d=>d)
 (λ_ _ _ q d=>d)
 (λq d=>d)
 (λ_ _ q d=>d)
 (λ_ _ q d=>d)
 () (λ_ _ _ _=>()) v
noncomputable def V.ig (v:V):(aI->Bool)->Bool:=V.rec (motive_1:=λ_=>(aI->Bool)->Bool) (motive_2:=λ_=>Unit)
 (λq=>false)
 (λ_ q=>false)
 (λ_ q=>false)
 (λ_ _ q=>false)
 (λs q=>q s)
 (λq=>false)
 (λ_ _ q=>false)
 (λ_ _ q=>false)
 (λq=>false)
 (λ_ _ _ _ q=>false)
 (λq=>false)
 (λq=>false)
 (λ_ q=>false)
 (λ_ _ _ _ _ q=>false)
 (λ_ q=>false)
 (λq=>false)
 (λ_ _ _ q=>false)
 (λq=>false)
 (λ_ _ q=>false)
 (λ_ _ q=>false)
 () (λ_ _ _ _=>()) v
noncomputable def V.dW (v:V):(Nat->bs)->Bool:=V.rec (motive_1:=λ_=>(Nat->bs)->Bool) (motive_2:=λ_=>Unit)
 (λq=>false)
 (λ_ q=>false)
 (λ_ q=>false)
 (λ_ _ q=>false)
 (λ_ q=>false)
 (λq=>false)
 (λi o q=>q i o)
 (λ_ _ q=>false)
 (λq=>false)
 (λ_ _ _ _ q=>false)
 (λq=>false)
 (λq=>false)
 (λ_ q=>false)
 (λ_ _ _ _ _ q=>false)
 (λ_ q=>false)
 (λq=>false)
 (λ_ _ _ q=>false)
 (λq=>false)
 (λ_ _ q=>false)
 (λ_ _ q=>false)
 () (λ_ _ _ _=>()) v
noncomputable def V.sw (v:V):(Nat->bs)->(Nat->bs)->Bool:=V.rec (motive_1:=λ_=>(Nat->bs)->(Nat->bs)->Bool) (motive_2:=λ_=>Unit)
 (λq l=>false)
 (λ_ q l=>false)
 (λ_ q l=>false)
 (λ_ _ q l=>false)
 (λ_ q l=>false)
 (λq l=>false)
 (λi o q l=>q i o)
 (λg o q l=>l g o)
 (λq l=>false)
 (λ_ _ _ _ q l=>false)
 (λq l=>false)
 (λq l=>false)
 (λ_ q l=>false)
 (λ_ _ _ _ _ q l=>false)
 (λ_ q l=>false)
 (λq l=>false)
 (λ_ _ _ q l=>false)
 (λq l=>false)
 (λ_ _ q l=>false)
 (λ_ _ q l=>false)
 () (λ_ _ _ _=>()) v
noncomputable def V.BE (v:V):(Nat->Nat->Nat->Cp->Bool)->Bool:=V.rec (motive_1:=λ_=>(Nat->Nat->Nat->Cp->Bool)->Bool) (motive_2:=λ_=>Unit)
 (λq=>false)
 (λ_ q=>false)
 (λ_ q=>false)
 (λ_ _ q=>false)
 (λ_ q=>false)
 (λq=>false)
 (λ_ _ q=>false)
 (λ_ _ q=>false)
 (λq=>false)
 (λi o n c q=>q i o n c)
 (λq=>false)
 (λq=>false)
 (λ_ q=>false)
 (λ_ _ _ _ _ q=>false)
 (λ_ q=>false)
 (λq=>false)
 (λ_ _ _ q=>false)
 (λq=>false)
 (λ_ _ q=>false)
 (λ_ _ q=>false)
 () (λ_ _ _ _=>()) v
noncomputable def V.sx (v:V):(Nat->ay->ay->Bool)->bs->Bool:=V.rec (motive_1:=λ_=>(Nat->ay->ay->Bool)->bs->Bool) (motive_2:=λ_=>Unit)
 (λq l=>false)
 (λ_ q l=>false)
 (λ_ q l=>false)
 (λ_ _ q l=>false)
 (λ_ q l=>false)
 (λq l=>false)
 (λ_ _ q l=>false)
 (λ_ _ q l=>false)
 (λq l=>false)
 (λ_ _ _ _ q l=>false)
 (λq l=>false)
 (λq l=>false)
 (λ_ q l=>false)
 (λf first cap _ _ q l=>q f first cap)
 (λi q l=>l i)
 (λq l=>false)
 (λ_ _ _ q l=>false)
 (λq l=>false)
 (λ_ _ q l=>false)
 (λ_ _ q l=>false)
 () (λ_ _ _ _=>()) v
noncomputable def V.dY (v:V):(ay->Bool)->Bool:=V.rec (motive_1:=λ_=>(ay->Bool)->Bool) (motive_2:=λ_=>Unit)
 (λq=>false)
 (λ_ q=>false)
 (λ_ q=>false)
 (λ_ _ q=>false)
 (λ_ q=>false)
 (λq=>false)
 (λ_ _ q=>false)
 (λ_ _ q=>false)
 (λq=>false)
 (λ_ _ _ _ q=>false)
 (λq=>false)
 (λq=>false)
 (λ_ q=>false)
 (λ_ _ _ _ _ q=>false)
 (λ_ q=>false)
 (λq=>false)
 (λ_ _ _ q=>false)
 (λq=>false)
 (λcs _ q=>q cs)
 (λ_ _ q=>false)
 () (λ_ _ _ _=>()) v
noncomputable def V.kD (v:V):(ay->Bool)->Bool:=V.rec (motive_1:=λ_=>(ay->Bool)->Bool) (motive_2:=λ_=>Unit)
 (λq=>false)
 (λ_ q=>false)
 (λ_ q=>false)
 (λ_ _ q=>false)
 (λ_ q=>false)
 (λq=>false)
 (λ_ _ q=>false)
 (λ_ _ q=>false)
 (λq=>false)
 (λ_ _ _ _ q=>false)
 (λq=>false)
 (λq=>false)
 (λ_ q=>false)
 (λ_ _ _ _ _ q=>false)
 (λ_ q=>false)
 (λq=>false)
 (λ_ _ _ q=>false)
 (λq=>false)
 (λ_ _ q=>false)
 (λcs _ q=>q cs)
 () (λ_ _ _ _=>()) v
noncomputable def V.oq (v:V):aY->Bool:=V.rec (motive_1:=λ_=>aY->Bool) (motive_2:=λ_=>Unit)
 (λq=>false)
 (λ_ q=>false)
 (λ_ q=>false)
 (λ_ _ q=>false)
 (λ_ q=>false)
 (λq=>false)
 (λi o q=>q (.ptr i o))
 (λg o q=>q (.iP g o))
 (λq=>false)
 (λ_ _ _ _ q=>false)
 (λq=>false)
 (λq=>false)
 (λ_ q=>false)
 (λf first cap _ _ q=>q (.fn f first cap))
 (λi q=>q (.yield i))
 (λq=>false)
 (λt v _ q=>q (.iface t v))
 (λq=>false)
 (λ_ _ q=>false)
 (λ_ _ q=>false)
 () (λ_ _ _ _=>()) v
noncomputable def V.live (v:V):aY->Bool:=V.rec (motive_1:=λ_=>aY->Bool) (motive_2:=λ_=>Unit)
 (λq=>false)
 (λb q=>q (.bool b))
 (λn q=>q (.num n))
 (λk n q=>q (.ik k n))
 (λs q=>q (.str s))
 (λq=>q .bg)
 (λi o q=>q (.ptr i o))
 (λg o q=>q (.iP g o))
 (λq=>q .au)
 (λi o n c q=>q (.sl i o n c))
 (λq=>q .z8)
 (λq=>q .fR)
 (λi q=>q (.map i))
 (λf first cap _ _ q=>q (.fn f first cap))
 (λi q=>q (.yield i))
 (λq=>q .fN)
 (λt v _ q=>q (.iface t v))
 (λq=>q .xV)
 (λcs _ q=>q (.agg cs))
 (λcs _ q=>q (.cI cs))
 () (λ_ _ _ _=>()) v
noncomputable def V.bt (v:V):aY->(Bool)->Bool:=V.rec (motive_1:=λ_=>aY->(Bool)->Bool) (motive_2:=λ_=>Unit)
 (λq d=>d)
 (λb q d=>q (.bool b))
 (λn q d=>q (.num n))
 (λk n q d=>q (.ik k n))
 (λs q d=>q (.str s))
 (λq d=>q .bg)
 (λi o q d=>q (.ptr i o))
 (λg o q d=>q (.iP g o))
 (λq d=>q .au)
 (λi o n c q d=>q (.sl i o n c))
 (λq d=>q .z8)
 (λq d=>q .fR)
 (λi q d=>q (.map i))
 (λf first cap _ _ q d=>q (.fn f first cap))
 (λi q d=>q (.yield i))
 (λq d=>q .fN)
 (λt v _ q d=>q (.iface t v))
 (λq d=>q .xV)
 (λcs _ q d=>q (.agg cs))
 (λcs _ q d=>q (.cI cs))
 () (λ_ _ _ _=>()) v
noncomputable def V.one (v:V):aY->Bool:=V.rec (motive_1:=λ_=>aY->Bool) (motive_2:=λ_=>Unit)
 (λq=>false)
 (λb q=>q (.bool b))
 (λn q=>q (.num n))
 (λk n q=>q (.ik k n))
 (λs q=>q (.str s))
 (λq=>q .bg)
 (λi o q=>q (.ptr i o))
 (λg o q=>q (.iP g o))
 (λq=>q .au)
 (λi o n c q=>q (.sl i o n c))
 (λq=>q .z8)
 (λq=>q .fR)
 (λi q=>q (.map i))
 (λf first cap _ _ q=>q (.fn f first cap))
 (λi q=>q (.yield i))
 (λq=>q .fN)
 (λt v _ q=>q (.iface t v))
 (λq=>q .xV)
 (λ_ _ q=>false)
 (λ_ _ q=>false)
 () (λ_ _ _ _=>()) v
noncomputable def V.ng (v:V):(Nat->aY)->(Bool)->Bool:=V.rec (motive_1:=λ_=>(Nat->aY)->(Bool)->Bool) (motive_2:=λ_=>Unit)
 (λq l=>false)
 (λ_ q l=>false)
 (λ_ q l=>false)
 (λ_ _ q l=>false)
 (λ_ q l=>false)
 (λq l=>false)
 (λ_ _ q l=>false)
 (λ_ _ q l=>false)
 (λq l=>false)
 (λ_ _ _ _ q l=>false)
 (λq l=>false)
 (λq l=>false)
 (λ_ q l=>false)
 (λ_ _ _ _ _ q l=>false)
 (λ_ q l=>false)
 (λq l=>false)
 (λt v _ q l=>q t v)
 (λq l=>l)
 (λ_ _ q l=>false)
 (λ_ _ q l=>false)
 () (λ_ _ _ _=>()) v
noncomputable def V.cq (v:V):(Bool->Bool)->Bool:=V.rec (motive_1:=λ_=>(Bool->Bool)->Bool) (motive_2:=λ_=>Unit)
 (λq=>false)
 (λ_ q=>false)
 (λ_ q=>false)
 (λ_ _ q=>false)
 (λ_ q=>false)
 (λq=>q true)
 (λi o q=>q false)
 (λg o q=>q false)
 (λq=>false)
 (λ_ _ _ _ q=>false)
 (λq=>false)
 (λq=>false)
 (λ_ q=>false)
 (λ_ _ _ _ _ q=>false)
 (λ_ q=>false)
 (λq=>false)
 (λ_ _ _ q=>false)
 (λq=>false)
 (λ_ _ q=>false)
 (λ_ _ q=>false)
 () (λ_ _ _ _=>()) v
noncomputable def V.ot (v:V):(Bool->Bool)->Bool:=V.rec (motive_1:=λ_=>(Bool->Bool)->Bool) (motive_2:=λ_=>Unit)
 (λq=>false)
 (λ_ q=>false)
 (λ_ q=>false)
 (λ_ _ q=>false)
 (λ_ q=>false)
 (λq=>false)
 (λ_ _ q=>false)
 (λ_ _ q=>false)
 (λq=>q true)
 (λi o n c q=>q false)
 (λq=>q false)
 (λq=>false)
 (λ_ q=>false)
 (λ_ _ _ _ _ q=>false)
 (λ_ q=>false)
 (λq=>false)
 (λ_ _ _ q=>false)
 (λq=>false)
 (λ_ _ q=>false)
 (λ_ _ q=>false)
 () (λ_ _ _ _=>()) v
noncomputable def V.il (v:V):(Bool->Bool)->Bool:=V.rec (motive_1:=λ_=>(Bool->Bool)->Bool) (motive_2:=λ_=>Unit)
 (λq=>false)
 (λ_ q=>false)
 (λ_ q=>false)
 (λ_ _ q=>false)
 (λ_ q=>false)
 (λq=>false)
 (λ_ _ q=>false)
 (λ_ _ q=>false)
 (λq=>false)
 (λ_ _ _ _ q=>false)
 (λq=>false)
 (λq=>q true)
 (λi q=>q false)
 (λ_ _ _ _ _ q=>false)
 (λ_ q=>false)
 (λq=>false)
 (λ_ _ _ q=>false)
 (λq=>false)
 (λ_ _ q=>false)
 (λ_ _ q=>false)
 () (λ_ _ _ _=>()) v
noncomputable def V.EC (v:V):(Bool->Bool)->Bool:=V.rec (motive_1:=λ_=>(Bool->Bool)->Bool) (motive_2:=λ_=>Unit)
 (λq=>false)
 (λ_ q=>false)
 (λ_ q=>false)
 (λ_ _ q=>false)
 (λ_ q=>false)
 (λq=>false)
 (λ_ _ q=>false)
 (λ_ _ q=>false)
 (λq=>false)
 (λ_ _ _ _ q=>false)
 (λq=>false)
 (λq=>false)
 (λ_ q=>false)
 (λf first cap _ _ q=>q false)
 (λi q=>q false)
 (λq=>q true)
 (λ_ _ _ q=>false)
 (λq=>false)
 (λ_ _ q=>false)
 (λ_ _ q=>false)
 () (λ_ _ _ _=>()) v
noncomputable def V.EB (v:V):(Bool->Bool)->Bool:=V.rec (motive_1:=λ_=>(Bool->Bool)->Bool) (motive_2:=λ_=>Unit)
 (λq=>false)
 (λ_ q=>false)
 (λ_ q=>false)
 (λ_ _ q=>false)
 (λ_ q=>false)
 (λq=>false)
 (λ_ _ q=>false)
 (λ_ _ q=>false)
 (λq=>false)
 (λ_ _ _ _ q=>false)
 (λq=>false)
 (λq=>false)
 (λ_ q=>false)
 (λ_ _ _ _ _ q=>false)
 (λ_ q=>false)
 (λq=>false)
 (λt v _ q=>q false)
 (λq=>q true)
 (λ_ _ q=>false)
 (λ_ _ q=>false)
 () (λ_ _ _ _=>()) v
noncomputable def V.cH (v:V):bs->(Bool)->Bool:=V.rec (motive_1:=λ_=>bs->(Bool)->Bool) (motive_2:=λ_=>Unit)
 (λq z=>false)
 (λ_ q z=>false)
 (λ_ q z=>false)
 (λ_ _ q z=>false)
 (λ_ q z=>false)
 (λq z=>false)
 (λ_ _ q z=>false)
 (λ_ _ q z=>false)
 (λq z=>false)
 (λ_ _ _ _ q z=>false)
 (λq z=>false)
 (λq z=>z)
 (λi q z=>q i)
 (λ_ _ _ _ _ q z=>false)
 (λ_ q z=>false)
 (λq z=>false)
 (λ_ _ _ q z=>false)
 (λq z=>false)
 (λ_ _ q z=>false)
 (λ_ _ q z=>false)
 () (λ_ _ _ _=>()) v
noncomputable def V.cK (v:V):(Nat->Nat->Nat->Cp->Bool)->(Bool)->(Bool)->Bool:=V.rec (motive_1:=λ_=>(Nat->Nat->Nat->Cp->Bool)->(Bool)->(Bool)->Bool) (motive_2:=λ_=>Unit)
 (λq z y=>false)
 (λ_ q z y=>false)
 (λ_ q z y=>false)
 (λ_ _ q z y=>false)
 (λ_ q z y=>false)
 (λq z y=>false)
 (λ_ _ q z y=>false)
 (λ_ _ q z y=>false)
 (λq z y=>z)
 (λi o n c q z y=>q i o n c)
 (λq z y=>y)
 (λq z y=>false)
 (λ_ q z y=>false)
 (λ_ _ _ _ _ q z y=>false)
 (λ_ q z y=>false)
 (λq z y=>false)
 (λ_ _ _ q z y=>false)
 (λq z y=>false)
 (λ_ _ q z y=>false)
 (λ_ _ q z y=>false)
 () (λ_ _ _ _=>()) v
noncomputable def V.kZ (v:V):(Bool->Bool)->(Bool)->Bool:=V.rec (motive_1:=λ_=>(Bool->Bool)->(Bool)->Bool) (motive_2:=λ_=>Unit)
 (λq d=>d)
 (λb q d=>q b)
 (λ_ q d=>d)
 (λ_ _ q d=>d)
 (λ_ q d=>d)
 (λq d=>d)
 (λ_ _ q d=>d)
 (λ_ _ q d=>d)
 (λq d=>d)
 (λ_ _ _ _ q d=>d)
 (λq d=>d)
 (λq d=>d)
 (λ_ q d=>d)
 (λ_ _ _ _ _ q d=>d)
 (λ_ q d=>d)
 (λq d=>d)
 (λ_ _ _ q d=>d)
 (λq d=>d)
 (λ_ _ q d=>d)
 (λ_ _ q d=>d)
 () (λ_ _ _ _=>()) v
noncomputable def V.Ck (v:V):(Nat->bs)->(Bool)->Bool:=V.rec (motive_1:=λ_=>(Nat->bs)->(Bool)->Bool) (motive_2:=λ_=>Unit)
 (λq d=>d)
 (λ_ q d=>d)
 (λ_ q d=>d)
 (λ_ _ q d=>d)
 (λ_ q d=>d)
 (λq d=>d)
 (λi o q d=>q i o)
 (λ_ _ q d=>d)
 (λq d=>d)
 (λ_ _ _ _ q d=>d)
 (λq d=>d)
 (λq d=>d)
 (λ_ q d=>d)
 (λ_ _ _ _ _ q d=>d)
 (λ_ q d=>d)
 (λq d=>d)
 (λ_ _ _ q d=>d)
 (λq d=>d)
 (λ_ _ q d=>d)
 (λ_ _ q d=>d)
 () (λ_ _ _ _=>()) v
noncomputable def V.guard (v:V):(Bool->Bool)->Bool:=V.rec (motive_1:=λ_=>(Bool->Bool)->Bool) (motive_2:=λ_=>Unit)
 (λq=>false)
 (λb q=>q b)
 (λ_ q=>false)
 (λ_ _ q=>false)
 (λ_ q=>false)
 (λq=>false)
 (λ_ _ q=>false)
 (λ_ _ q=>false)
 (λq=>false)
 (λ_ _ _ _ q=>false)
 (λq=>false)
 (λq=>false)
 (λ_ q=>false)
 (λ_ _ _ _ _ q=>false)
 (λ_ q=>false)
 (λq=>false)
 (λ_ _ _ q=>false)
 (λq=>false)
 (λ_ _ q=>false)
 (λcs _ q=>q false)
 () (λ_ _ _ _=>()) v
noncomputable def V.cells (v:V):(ay->Bool)->Bool:=V.rec (motive_1:=λ_=>(ay->Bool)->Bool) (motive_2:=λ_=>Unit)
 (λq=>false)
 (λb q=>q [.bool b])
 (λn q=>q [.num n])
 (λk n q=>q [.ik k n])
 (λs q=>q [.str s])
 (λq=>q [.bg])
 (λi o q=>q [.ptr i o])
 (λg o q=>q [.iP g o])
 (λq=>q [.au])
 (λi o n c q=>q [.sl i o n c])
 (λq=>q [.z8])
 (λq=>q [.fR])
 (λi q=>q [.map i])
 (λf first cap _ _ q=>q [.fn f first cap])
 (λi q=>q [.yield i])
 (λq=>q [.fN])
 (λt v _ q=>q [.iface t v])
 (λq=>q [.xV])
 (λcs _ q=>q cs)
 (λ_ _ q=>false)
 () (λ_ _ _ _=>()) v
inductive D where
 |call (f:Nat) (args:List V)
 |collected (i:Nat)
inductive Cells where
 |c1 (s:dj V)
 |c2 (s:dj (dj V))
 |c3 (s:dj (dj (dj V)))
 |c4 (s:dj (dj (dj (dj V))))
 |cf (f:Nat->V)
inductive X where
 |exit (id:Nat)
 |goto (l:Nat)
 |ret
abbrev Env:=dj (dj V)
inductive O where
 |none
 |row (zB n fz:Nat) (whole:Bool) (z:List V) (c:Cells)
 |map (es:List (V×V×Nat)) (clk:Nat)
 |yI (s:List Nat) (pos:Nat)
 |loop (st:LoopState) (gJ:Option X) (fn:Nat) (e:Env) (ps:List Nat) (assign body:Code) (ds:Nat)
 |sJ (c:Option (List D))
 |dead
inductive Heap where
 |tr (t:dj (dj (dj (dj O)))) (n:Nat)
 |fn (f:Nat->O) (n:Nat)
abbrev av:=Nat->O
abbrev cR:=V->Heap->Bool
abbrev cF:=List D->Env->Heap->Bool
noncomputable def Heap.nx (h:Heap):Nat:=Heap.rec (motive:=λ_=>Nat) (λ_ n=>n) (λ_ n=>n) h
noncomputable def O.eO (v:O):(Nat->Nat->Nat->Bool->ay->Cells->Bool)->Bool:=O.rec (motive:=λ_=>(Nat->Nat->Nat->Bool->ay->Cells->Bool)->Bool)
 (λq=>false)
 (λzB n fz whole z c q=>q zB n fz whole z c)
 (λ_ _ q=>false)
 (λ_ _ q=>false)
 (λ_ _ _ _ _ _ _ _ q=>false)
 (λ_ q=>false)
 (λq=>false)
 v
noncomputable def O.cH (v:O):(List (V×V×Nat)->bs)->Bool:=O.rec (motive:=λ_=>(List (V×V×Nat)->bs)->Bool)
 (λq=>false)
 (λ_ _ _ _ _ _ q=>false)
 (λes clk q=>q es clk)
 (λ_ _ q=>false)
 (λ_ _ _ _ _ _ _ _ q=>false)
 (λ_ q=>false)
 (λq=>false)
 v
noncomputable def O.Pq (v:O):(aI->bs)->Bool:=O.rec (motive:=λ_=>(aI->bs)->Bool)
 (λq=>false)
 (λ_ _ _ _ _ _ q=>false)
 (λ_ _ q=>false)
 (λs pos q=>q s pos)
 (λ_ _ _ _ _ _ _ _ q=>false)
 (λ_ q=>false)
 (λq=>false)
 v
noncomputable def O.i0 (v:O):(LoopState->Option X->Nat->Env->aI->Code->Code->bs)->Bool:=O.rec (motive:=λ_=>(LoopState->Option X->Nat->Env->aI->Code->Code->bs)->Bool)
 (λq=>false)
 (λ_ _ _ _ _ _ q=>false)
 (λ_ _ q=>false)
 (λ_ _ q=>false)
 (λst gJ fn e ps assign body ds q=>q st gJ fn e ps assign body ds)
 (λ_ q=>false)
 (λq=>false)
 v
noncomputable def O.qR (v:O):(Option (List D)->Bool)->Bool:=O.rec (motive:=λ_=>(Option (List D)->Bool)->Bool)
 (λq=>false)
 (λ_ _ _ _ _ _ q=>false)
 (λ_ _ q=>false)
 (λ_ _ q=>false)
 (λ_ _ _ _ _ _ _ _ q=>false)
 (λc q=>q c)
 (λq=>false)
 v
noncomputable def X.block (v:X):(Nat)->(Bool)->(Bool)->Bool:=X.rec (motive:=λ_=>(Nat)->(Bool)->(Bool)->Bool)
 (λid b q d=>cond (Nat.beq id b) q d)
 (λ_ b q d=>d)
 (λb q d=>d)
 v
noncomputable def X.uS (v:X):bs->(Bool)->Bool:=X.rec (motive:=λ_=>bs->(Bool)->Bool)
 (λ_ q d=>d)
 (λl q d=>q l)
 (λq d=>d)
 v
noncomputable def X.yL (v:X):(Bool)->Bool:=X.rec (motive:=λ_=>(Bool)->Bool)
 (λ_ q=>false)
 (λ_ q=>false)
 (λq=>q)
 v
noncomputable def LS.tH (v:LoopState):(Bool)->Bool:=LoopState.rec (motive:=λ_=>(Bool)->Bool)
 (λq=>q)
 (λq=>false)
 (λq=>false)
 (λq=>false)
 v
noncomputable def LS.tw (v:LoopState):(Bool)->Bool:=LoopState.rec (motive:=λ_=>(Bool)->Bool)
 (λq=>q)
 (λq=>false)
 (λq=>q)
 (λq=>q)
 v
def cy(f:dA)(i:Nat)(v:V):dA:=λj=>cond (Nat.beq j i) v (f j)
def d0(n:Nat):Nat:=Nat.mod n 16
def d1(n:Nat):Nat:=Nat.mod (Nat.div n 16) 16
structure P2:Type 1 where
 get:(α:Type)->α->dj (dj α)->α
 put:(α:Type)->α->dj (dj α)->(dj (dj α)->Bool)->Bool
noncomputable def p2 (n:Nat):P2:=
 ⟨λα d s=>(mE (d0 n)).get α d ((mE (d1 n)).get (dj α) (bY α d) s),
  λα v s k=>(mE (d0 n)).put α v ((mE (d1 n)).get (dj α) (bY α v) s) (λb=>(mE (d1 n)).put (dj α) b s k)⟩
def a9W:P2:=⟨λ_ d _=>d,λ_ _ _ _=>false⟩
noncomputable def oL (n:Nat):P2:=cond (Nat.blt n 256) (p2 n) a9W
structure HP where
 get:dj (dj (dj (dj O)))->O
 put:O->dj (dj (dj (dj O)))->(dj (dj (dj (dj O)))->Bool)->Bool
noncomputable def hp (n:Nat):HP:=
 ⟨λs=>(p2 n).get O .dead ((oL (Nat.div n 256)).get (dj (dj O)) (bY _ (bY _ .dead)) s),
  λo s k=>(p2 n).put O o ((oL (Nat.div n 256)).get (dj (dj O)) (bY _ (bY _ .dead)) s) (λb=>(oL (Nat.div n 256)).put (dj (dj O)) b s k)⟩
structure CP where
 g1:dj V->V
 g2:dj (dj V)->V
 g3:dj (dj (dj V))->V
 g4:dj (dj (dj (dj V)))->V
 s1:V->dj V->(dj V->Bool)->Bool
 s2:V->dj (dj V)->(dj (dj V)->Bool)->Bool
 s3:V->dj (dj (dj V))->(dj (dj (dj V))->Bool)->Bool
 s4:V->dj (dj (dj (dj V)))->(dj (dj (dj (dj V)))->Bool)->Bool
noncomputable def cp (n:Nat):CP:=
 ⟨λs=>(mE n).get V .undef s,
  λs=>(oL n).get V .undef s,
  λs=>(mE (d0 n)).get V .undef ((oL (Nat.div n 16)).get (dj V) (bY V .undef) s),
  λs=>(p2 n).get V .undef ((oL (Nat.div n 256)).get (dj (dj V)) (bY _ (bY _ .undef)) s),
  λv s k=>(mE n).put V v s k,
  λv s k=>(oL n).put V v s k,
  λv s k=>(mE (d0 n)).put V v ((oL (Nat.div n 16)).get (dj V) (bY V .undef) s) (λb=>(oL (Nat.div n 16)).put (dj V) b s k),
  λv s k=>(p2 n).put V v ((oL (Nat.div n 256)).get (dj (dj V)) (bY _ (bY _ .undef)) s) (λb=>(oL (Nat.div n 256)).put (dj (dj V)) b s k)⟩
noncomputable def Cells.get (v:Cells):(Nat)->V:=Cells.rec (motive:=λ_=>(Nat)->V)
 (λs n=>(cp n).g1 s)
 (λs n=>(cp n).g2 s)
 (λs n=>(cp n).g3 s)
 (λs n=>(cp n).g4 s)
 (λs n=>s n)
 v
noncomputable def Cells.put (v:Cells):(Nat)->(V)->(Cells->Bool)->Bool:=Cells.rec (motive:=λ_=>(Nat)->(V)->(Cells->Bool)->Bool)
 (λs n x k=>(cp n).s1 x s (λs=>k (.c1 s)))
 (λs n x k=>(cp n).s2 x s (λs=>k (.c2 s)))
 (λs n x k=>(cp n).s3 x s (λs=>k (.c3 s)))
 (λs n x k=>(cp n).s4 x s (λs=>k (.c4 s)))
 (λs n x k=>k (.cf (cy s n x)))
 v
noncomputable def aR (b:Bool) (x y:Bool):Bool:=Bool.rec (motive:=λ_=>Bool) y x b
noncomputable def gy (n:Nat):bs->Bool:=Nat.rec (motive:=λ_=>bs->Bool) (λ_=>false) (λm _ k=>k m) (Nat.succ n)
noncomputable def rT (n:Int):bs->bs->Bool:=Int.rec (motive:=λ_=>bs->bs->Bool) (λm k _=>gy m k) (λm _ l=>gy m l) n
noncomputable def cE {α β:Type} (n:β) (c:α->List α->β->β) (l:List α):β:=List.rec (motive:=λ_=>β) n c l
noncomputable def rounds {α β:Type} (z:α->β) (s:(α->β)->α->β) (f:Nat):α->β:=Nat.rec (motive:=λ_=>α->β) z (λ_ ih=>s ih) f
noncomputable def levels {β:Type} (z:β) (s:β->β) (f:Nat):β:=Nat.rec (motive:=λ_=>β) z (λ_ ih=>s ih) f
noncomputable def ek {α:Type} (l:List α) (z:Bool) (k:α->List α->Bool):Bool:=List.rec (motive:=λ_=>Bool) z (λx t _=>k x t) l
noncomputable def jv {α:Type} (o:Option α) (z:Bool) (k:α->Bool):Bool:=Option.rec (motive:=λ_=>Bool) z k o
noncomputable def mN (c:Cp) (k:bs) (l:Nat->bs):Bool:=Cp.rec (motive:=λ_=>Bool) k l c
noncomputable def Heap.on (h:Heap) (k:dj (dj (dj (dj O)))->bs) (l:av->bs):Bool:=Heap.rec (motive:=λ_=>Bool) k l h
noncomputable def gK {α β:Type} (p:α×β) (k:α->β->Bool):Bool:=Prod.rec (motive:=λ_=>Bool) k p
noncomputable def onD (d:D) (k:Nat->ay->Bool) (l:bs):Bool:=D.rec (motive:=λ_=>Bool) k l d
def DG:IntKind->Nat
 |.i8=>0 | .i16=>1 | .i32=>2 | .i64=>3 | .u8=>4 | .u16=>5 | .u32=>6 | .u64=>7
def mR:Int->Int->Bool
 |.ofNat a,.ofNat b=>Nat.beq a b
 |.negSucc a,.negSucc b=>Nat.beq a b
 |_,_=>false
noncomputable def yq (a b:aI):Bool:=cE (λb=>cE true (λ_ _ _=>false) b) (λx _ r b=>cE false (λy t _=>aR (Nat.beq x y) (r t) false) b) a b
noncomputable def V.same (a:V):aY:=V.rec (motive_1:=λ_=>V->Bool) (motive_2:=λ_=>ay->Bool)
 (λ_=>false) (λx b=>V.ja b (λy=>aR x y (aR y false true))) (λn b=>V.wc b (Nat.beq n)) (λk n b=>V.a7G b (λl m=>aR (Nat.beq (DG k) (DG l)) (mR n m) false)) (λs b=>V.ig b (yq s))
 (λb=>V.cq b (λt=>t)) (λi o b=>V.dW b (λj p=>aR (Nat.beq i j) (Nat.beq o p) false)) (λg o b=>V.sw b (λ_ _=>false) (λj p=>aR (Nat.beq g j) (Nat.beq o p) false))
 (λb=>V.ot b (λt=>t)) (λi o n c b=>V.BE b (λj p m d=>aR (Nat.beq i j) (aR (Nat.beq o p) (aR (Nat.beq n m) (mN c (λx=>mN d (Nat.beq x) (λ_ _=>false)) (λx z=>mN d (λ_=>false) (λy u=>aR (Nat.beq x y) (Nat.beq z u) false))) false) false) false))
 (λb=>V.cK b (λ_ _ _ _=>false) false true) (λb=>V.il b (λt=>t)) (λi b=>V.cH b (Nat.beq i) false)
 (λf _ _ ha hc b=>V.sx b (λg a c=>aR (Nat.beq f g) (aR (ha a) (hc c) false) false) (λ_=>false)) (λi b=>V.sx b (λ_ _ _=>false) (Nat.beq i)) (λb=>V.EC b (λt=>t))
 (λt _ hv b=>V.ng b (λu w=>aR (Nat.beq t u) (hv w) false) false) (λb=>V.EB b (λt=>t)) (λ_ h b=>V.dY b h) (λ_ h b=>V.kD b h)
 (λb=>ek b true (λ_ _=>false)) (λ_ _ hx hl b=>ek b false (λy t=>aR (hx y) (hl t) false)) a
noncomputable def V.Ee (a:ay):ay->Bool:=V.rec_1 (motive_1:=λ_=>V->Bool) (motive_2:=λ_=>ay->Bool)
 (λ_=>false) (λx b=>V.ja b (λy=>aR x y (aR y false true))) (λn b=>V.wc b (Nat.beq n)) (λk n b=>V.a7G b (λl m=>aR (Nat.beq (DG k) (DG l)) (mR n m) false)) (λs b=>V.ig b (yq s))
 (λb=>V.cq b (λt=>t)) (λi o b=>V.dW b (λj p=>aR (Nat.beq i j) (Nat.beq o p) false)) (λg o b=>V.sw b (λ_ _=>false) (λj p=>aR (Nat.beq g j) (Nat.beq o p) false))
 (λb=>V.ot b (λt=>t)) (λi o n c b=>V.BE b (λj p m d=>aR (Nat.beq i j) (aR (Nat.beq o p) (aR (Nat.beq n m) (mN c (λx=>mN d (Nat.beq x) (λ_ _=>false)) (λx z=>mN d (λ_=>false) (λy u=>aR (Nat.beq x y) (Nat.beq z u) false))) false) false) false))
 (λb=>V.cK b (λ_ _ _ _=>false) false true) (λb=>V.il b (λt=>t)) (λi b=>V.cH b (Nat.beq i) false)
 (λf _ _ ha hc b=>V.sx b (λg a c=>aR (Nat.beq f g) (aR (ha a) (hc c) false) false) (λ_=>false)) (λi b=>V.sx b (λ_ _ _=>false) (Nat.beq i)) (λb=>V.EC b (λt=>t))
 (λt _ hv b=>V.ng b (λu w=>aR (Nat.beq t u) (hv w) false) false) (λb=>V.EB b (λt=>t)) (λ_ h b=>V.dY b h) (λ_ h b=>V.kD b h)
 (λb=>ek b true (λ_ _=>false)) (λ_ _ hx hl b=>ek b false (λy t=>aR (hx y) (hl t) false)) a
end Go.Ev
