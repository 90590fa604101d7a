import Derived.Test.YthpffinbkpnniaaGreatDoorM10
set_option linter.all false
set_option maxRecDepth 100000
namespace Go.Ev.Sy
open Go Go.Ev Go.Proofs
@[go_sem ↓]def aB7 a e F S h:bJ K 37 [(0,a),(1,e),(2,F),(3,S),(4,h)]=kQ [.one,.one,.one,.one,.one,.zero (.au)] [a,e,F,S,h]/\bJ K 202 [(0,a),(1,e),(2,F),(3,S),(5,h)]=kQ [.one,.one,.one,.one,.zero (.num 0),.zero (.num 0),.zero (.num 0),.zero (.num 0),.one] [a,e,F,S,h]/\bJ K 153 [(0,a),(1,e),(2,F),(3,S),(4,h)]=kQ [.one,.one,.one,.one,.one] [a,e,F,S,h]:=by and_intros<;>first|exact pA (is:=[0,1,2,3,4]) E7 [a,e,F,S,h] rfl|exact pA (is:=[0,1,2,3,5]) E7 [a,e,F,S,h] rfl
@[go_sem ↓]def aB6 ok m k:gx K 159 m k ok=lko 159 (.agg [.fN]) ok m k/\gx K 140 m k ok=lko 140 (.bg) ok m k/\gx K 291 m k ok=lko 291 (.agg [.num 0,.num 0,.num 0]) ok m k/\gx K 218 m k ok=lko 218 (.num 0) ok m k/\gx K 187 m k ok=lko 187 (.agg [.num 0,.au,.num 0]) ok m k/\gx K 128 m k ok=lko 128 (.au) ok m k/\gx K 381 m k ok=lko 381 (.bool false) ok m k:=⟨HK TU ok m k,HK KP ok m k,HK EG ok m k,HK wj ok m k,HK EH ok m k,HK TV ok m k,HK EF ok m k⟩
@[go_sem]def aB5 l c x h k:IJ 159 (.agg [.fN]) true (.map (enc l) c) x h k=k (.cI (KO (.agg [.fN]) (cC l x))) h/\IJ 140 (.bg) false (.map (enc l) c) x h k=k ((cC l x).getD (.bg)) h/\IJ 291 (.agg [.num 0,.num 0,.num 0]) false (.map (enc l) c) x h k=k ((cC l x).getD (.agg [.num 0,.num 0,.num 0])) h/\IJ 218 (.num 0) false (.map (enc l) c) x h k=k ((cC l x).getD (.num 0)) h/\IJ 187 (.agg [.num 0,.au,.num 0]) false (.map (enc l) c) x h k=k ((cC l x).getD (.agg [.num 0,.au,.num 0])) h/\IJ 128 (.au) false (.map (enc l) c) x h k=k ((cC l x).getD (.au)) h/\IJ 381 (.bool false) false (.map (enc l) c) x h k=k ((cC l x).getD (.bool false)) h/\IJ 218 (.num 0) true (.map (enc l) c) x h k=k (.cI (KO (.num 0) (cC l x))) h:=⟨KQ TU l c x h k,oX KP (λh=>Q8) l c x h k,oX EG (λh=>Q8) l c x h k,oX wj (λh=>Q8) l c x h k,oX EH (λh=>Q8) l c x h k,oX TV (λh=>Q8) l c x h k,oX EF (λh=>Q8) l c x h k,KQ wj l c x h k⟩
@[go_sem ↓]def aB4 a e F S h c:bJ K 130 [(0,a),(1,e),(2,F),(3,S),(4,h),(5,c)]=kQ [.one,.one,.one,.one,.one,.one] [a,e,F,S,h,c]/\bJ K 195 [(0,a),(1,e),(2,F),(3,S),(4,h),(5,c)]=kQ [.one,.one,.one,.one,.one,.one] [a,e,F,S,h,c]:=by and_intros<;>exact pA (is:=[0,1,2,3,4,5]) E7 [a,e,F,S,h,c] rfl
@[go_sem ↓]def aB3 l c:dw K 31 l c=XN 151 3 24 [.num 0,.num 0,.num 0] l c/\dw K 34 l c=XN 49 5 40 [.num 0,.num 0,.num 0,.num 0,.num 0] l c/\dw K 199 l c=XN 287 6 40 [.ik .u32 0,.ik .i32 0,.ik .u32 0,.num 0,.bg,.bg] l c/\dw K 32 l c=XN 3 1 8 [.num 0] l c/\dw K 351 l c=XN 391 2 16 [.num 0,.num 0] l c/\dw K 460 l c=XN 407 1 8 [.ik .u64 0] l c/\dw K 360 l c=XN 387 1 8 [.num 0] l c/\dw K 25 l c=XN 5 1 1 [.ik .u8 0] l c/\dw K 33 l c=XN 149 4 32 [.num 0,.num 0,.num 0,.num 0] l c/\dw K 640 l c=XN 4 1 1 [.bool false] l c:=by and_intros<;>exact aj2 E7 E7 l c
@[go_sem ↓]def aB2 m k x:gH K 159 m k x=upo 159 m k x/\gH K 381 m k x=upo 381 m k x/\gH K 208 m k x=upo 208 m k x/\gH K 187 m k x=upo 187 m k x/\gH K 128 m k x=upo 128 m k x/\gH K 291 m k x=upo 291 m k x/\gH K 544 m k x=upo 544 m k x/\gH K 218 m k x=upo 218 m k x:=⟨LW TU m k x,LW EF m k x,LW TS m k x,LW EH m k x,LW TV m k x,LW EG m k x,LW BN m k x,LW wj m k x⟩
@[go_sem]def aB1 l c i x v f n k:TR 159 (.map (enc l) c) i x v f n k=k cA (.fn (bw f i (.map (enc (eJ l x v c)) (im l x c))) n)/\TR 381 (.map (enc l) c) i x v f n k=k cA (.fn (bw f i (.map (enc (eJ l x v c)) (im l x c))) n)/\TR 208 (.map (enc l) c) i x v f n k=k cA (.fn (bw f i (.map (enc (eJ l x v c)) (im l x c))) n)/\TR 187 (.map (enc l) c) i x v f n k=k cA (.fn (bw f i (.map (enc (eJ l x v c)) (im l x c))) n)/\TR 128 (.map (enc l) c) i x v f n k=k cA (.fn (bw f i (.map (enc (eJ l x v c)) (im l x c))) n)/\TR 291 (.map (enc l) c) i x v f n k=k cA (.fn (bw f i (.map (enc (eJ l x v c)) (im l x c))) n)/\TR 544 (.map (enc l) c) i x v f n k=k cA (.fn (bw f i (.map (enc (eJ l x v c)) (im l x c))) n)/\TR 218 (.map (enc l) c) i x v f n k=k cA (.fn (bw f i (.map (enc (eJ l x v c)) (im l x c))) n):=⟨oW TU l c i x v f n k,oW EF l c i x v f n k,oW TS l c i x v f n k,oW EH l c i x v f n k,oW TV l c i x v f n k,oW EG l c i x v f n k,oW BN l c i x v f n k,oW wj l c i x v f n k⟩
@[go_sem ↓]def aB0 a e F:bJ K 266 [(0,a),(1,e),(2,F)]=kQ [.one,.one,.one] [a,e,F]/\bJ K 151 [(0,a),(1,e),(2,F)]=kQ [.one,.one,.one] [a,e,F]/\bJ K 54 [(0,a),(1,e),(2,F)]=kQ [.one,.one,.one,.zero (.str [])] [a,e,F]/\bJ K 476 [(0,a),(1,e),(2,F)]=kQ [.one,.one,.one] [a,e,F]/\bJ K 437 [(1,a),(2,e),(3,F)]=kQ [.zero (.au),.one,.one,.one] [a,e,F]:=by and_intros<;>first|exact pA (is:=[0,1,2]) E7 [a,e,F] rfl|exact pA (is:=[1,2,3]) E7 [a,e,F] rfl
@[go_sem ↓]def aAZ x:ak K 151 x 2=dy 2 x/\ak K 153 x 2=dy 2 x/\ak K 49 x 3=dy 3 x/\ak K 49 x 2=dy 2 x/\ak K 49 x 4=dy 4 x/\ak K 202 x 3=dy 3 x/\ak K 362 x 0=dy 0 x/\ak K 362 x 1=dy 1 x/\ak K 362 x 2=dy 4 x/\ak K 387 x 2=dy 0 x/\ak K 353 x 0=dy 0 x/\ak K 391 x 0=dy 0 x/\ak K 391 x 1=dy 1 x/\ak K 383 x 1=dy 1 x/\ak K 189 x 0=dy 0 x/\ak K 189 x 1=dy 1 x/\ak K 266 x 0=dy 0 x/\ak K 130 x 4=dy 4 x/\ak K 130 x 5=dy 5 x/\ak K 153 x 0=dy 0 x/\ak K 153 x 1=dy 1 x/\ak K 153 x 3=dy 3 x/\ak K 153 x 4=dy 4 x/\ak K 151 x 1=dy 1 x/\ak K 437 x 0=dy 0 x/\ak K 437 x 1=dy 1 x/\ak K 459 x 1=dy 1 x/\ak K 459 x 0=dy 0 x/\ak K 463 x 0=dy 0 x/\ak K 283 x 1=dy 0 x/\ak K 465 x 2=dy 2 x/\ak K 207 x 0=dy 0 x/\ak K 266 x 1=dy 1 x/\ak K 476 x 1=dy 1 x/\ak K 476 x 2=dy 2 x/\ak K 476 x 0=dy 0 x/\ak K 383 x 0=dy 0 x/\ak K 264 x 3=dy 3 x/\ak K 264 x 2=dy 2 x/\ak K 264 x 4=dy 4 x/\ak K 264 x 5=dy 260 x/\ak K 264 x 0=dy 0 x/\ak K 264 x 1=dy 1 x/\ak K 412 x 1=dy 1 x/\ak K 414 x 1=dy 1 x/\ak K 412 x 0=dy 0 x/\ak K 195 x 0=dy 0 x/\ak K 195 x 3=dy 3 x/\ak K 463 x 1=dy 1 x/\ak K 277 x 1=dy 0 x/\ak K 283 x 2=dy 1 x/\ak K 465 x 0=dy 0 x/\ak K 266 x 2=dy 2 x/\ak K 147 x 2=dy 2 x/\ak K 373 x 0=dy 0 x/\ak K 378 x 1=dy 2 x/\ak K 373 x 1=dy 1 x/\ak K 380 x 0=dy 0 x/\ak K 375 x 0=dy 0 x:=Vg
@[go_sem ↓]def aAY a e F:cX K 32 3 [(0,a),(1,e),(2,F)]=bso 3 3 [.one,.one,.one] [.num 0] 3 [a,e,F]:=a8M (is:=[0,1,2]) E7 [a,e,F] rfl
@[go_sem ↓]def aAX x:oF K 3 79 x=cvo .u64 x/\oF K 407 3 x=cvo .i64 x/\oF K 79 3 x=cvo .i64 x/\oF K 598 232 x=cvp x:=by and_intros<;>first|exact aqX E7 E7 x|exact aja (te:=279) E7 E7 x
@[go_sem ↓]def aAW x lo S m:gq K 32 x lo (some S) (some m)=scm 1 x lo S m/\gq K 215 x lo (some S) (some m)=scm 2 x lo S m/\gq K 34 x lo (some S) (some m)=scm 5 x lo S m:=⟨a4w (te:=3) E7 x lo S m,a4w (te:=222) E7 x lo S m,a4w (te:=49) E7 x lo S m⟩
@[go_sem ↓]def aAV x:lS K 414 x 0=flo 0 x/\lS K 414 x 1=flA 1 2 x:=⟨aqV E7 x,aj4 E7 x⟩
@[go_sem ↓]def aAU m k:aV K .delete [187,3] [m,k]=dpo 187 m k/\aV K .delete [140,3] [m,k]=dpo 140 m k/\aV K .delete [218,3] [m,k]=dpo 218 m k/\aV K .delete [291,3] [m,k]=dpo 291 m k/\aV K .delete [208,3] [m,k]=dpo 208 m k/\aV K .delete [381,3] [m,k]=dpo 381 m k/\aV K .delete [544,3] [m,k]=dpo 544 m k:=⟨RB EH m k,RB KP m k,RB wj m k,RB EG m k,RB TS m k,RB EF m k,RB BN m k⟩
@[go_sem]def atL{l c i x f}(hf:f i= .map (enc l) c) n k:XS 187 (.map (enc l) c) i x f n k=k cA (.fn (bw f i (.map (enc (iO l x)) c)) n):=qV EH l c i x hf n k
@[go_sem]def atM{l c i x f}(hf:f i= .map (enc l) c) n k:XS 140 (.map (enc l) c) i x f n k=k cA (.fn (bw f i (.map (enc (iO l x)) c)) n):=qV KP l c i x hf n k
@[go_sem ↓]def amG:bJ K 153 []=kQ [.zero (.num 0),.zero (.num 0),.zero (.num 0),.zero (.num 0),.zero (.num 0)] []:=pA (is:=[]) E7 [] rfl
@[go_sem ↓]def aAT x i:lQ K 200 x i=ixo 4 1 x i/\lQ K 477 x i=ixA 4 3 x i:=⟨aqU (te:=3) E7 x i,aj3 (te:=476) E7 x i⟩
@[go_sem ↓]def aAS a e:cX K 510 2 [(0,a),(1,e)]=bso 34 2 [.one,.one] [.au] 2 [a,e]:=a8M (is:=[0,1]) E7 [a,e] rfl
@[go_sem ↓]def arM:bJ K 49 []=kQ [.zero (.num 0),.zero (.num 0),.zero (.num 0),.zero (.num 0),.zero (.num 0)] []:=pA (is:=[]) E7 [] rfl
@[go_sem ↓]def awA{op:BinOp}(A:op≠ .eql)(N:op≠ .neq) x y:da K op 407 x y=gj op x y:=adn E7 A N x y
@[go_sem ↓]def amF:bJ K 212 []=kQ [] []:=pA (is:=[]) E7 [] rfl
@[go_sem]def atJ{l c i x f}(hf:f i= .map (enc l) c) n k:XS 218 (.map (enc l) c) i x f n k=k cA (.fn (bw f i (.map (enc (iO l x)) c)) n):=qV wj l c i x hf n k
@[go_sem ↓]def amD:bJ K 412 []=kQ [.zero (.au),.zero (.num 0)] []:=pA (is:=[]) E7 [] rfl
@[go_sem]def aAR:K.dr 228 4=some (iA 25)/\K.dr 228 6=some (dq 4 [(5,[]),(6,[5]),(8,[]),(9,[]),(10,[]),(4,[5]),(7,[]),(11,[]),(12,[]),(13,[])])/\K.dr 231 4=some (dq 10 [(10,[3]),(11,[]),(12,[])])/\K.dr 235 9=some (iA 14)/\K.dr 235 12=some (iA 13)/\K.dr 240 13=some (iA 7)/\K.dr 240 14=some (dq 8 [(8,[3]),(9,[]),(10,[])])/\K.dr 240 15=some (dq 9 [(10,[]),(9,[0,4]),(11,[0]),(12,[]),(13,[])])/\K.dr 241 8=some (iA 13)/\K.dr 246 3=some (iA 13)/\K.dr 246 6=some (dq 14 [(14,[3,5,9,11,12]),(15,[3,5]),(16,[])])/\K.dr 246 8=some (iA 9)/\K.dr 246 11=some (iA 7)/\K.dr 246 12=some (iA 8)/\K.dr 269 3=some (dq 6 [(6,[3]),(7,[]),(8,[]),(9,[]),(10,[])])/\K.dr 278 9=some (iA 7)/\K.dr 289 6=some (iA 11)/\K.dr 290 4=some (iA 15)/\K.dr 290 6=some (iA 14)/\K.dr 291 7=some (iA 9)/\K.dr 294 4=some (iA 8)/\K.dr 294 6=some (iA 14)/\K.dr 294 9=some (iA 14)/\K.dr 317 5=some (iA 17)/\K.dr 322 8=some (iA 9)/\K.dr 326 6=some (dq 6 [(6,[3]),(7,[])])/\K.dr 327 3=some (iA 11)/\K.dr 328 1=some (iA 10)/\K.dr 350 0=some (iA 6)/\K.dr 351 1=some (iA 13)/\K.dr 358 7=some (iA 11)/\K.dr 358 9=some (iA 7)/\K.dr 360 6=some (iA 10)/\K.dr 373 9=some (iA 11)/\K.dr 375 8=some (iA 7)/\K.dr 383 0=some (iA 15)/\K.dr 385 10=some (dq 15 [(15,[3]),(16,[]),(17,[]),(18,[]),(19,[]),(20,[]),(21,[])])/\K.dr 385 11=some (iA 10)/\K.dr 385 13=some (dq 6 [(6,[4,5]),(7,[]),(8,[]),(9,[]),(10,[])])/\K.dr 388 0=some (dq 5 [(5,[0]),(6,[]),(7,[]),(8,[])])/\K.dr 391 4=some (iA 14)/\K.dr 391 5=some (iA 11)/\K.dr 421 6=some (iA 11)/\K.dr 421 7=some (iA 10)/\K.dr 421 8=some (iA 9)/\K.dr 422 1=some (iA 14)/\K.dr 422 3=some (dq 9 [(10,[]),(9,[3]),(11,[]),(12,[])])/\K.dr 429 5=some (iA 8)/\K.dr 460 6=some (dq 5 [(6,[]),(5,[3]),(7,[]),(8,[])])/\K.dr 465 4=some (dq 3 [(3,[2]),(4,[])])/\K.dr 465 7=some (dq 3 [(3,[2]),(4,[])])/\K.dr 468 3=some (iA 14)/\K.dr 470 3=some (iA 14)/\K.dr 471 6=some (iA 16)/\K.dr 471 7=some (iA 17)/\K.dr 500 1=some (iA 10)/\K.dr 502 1=some (dq 8 [(9,[]),(10,[]),(11,[]),(12,[]),(13,[]),(14,[]),(8,[1,3,5,10,14]),(15,[]),(16,[]),(17,[])])/\K.dr 504 1=some (dq 7 [(7,[4]),(8,[]),(9,[]),(10,[]),(11,[]),(12,[]),(13,[]),(14,[]),(15,[]),(16,[]),(17,[]),(18,[]),(19,[]),(20,[]),(21,[]),(22,[])])/\K.dr 505 1=some (iA 10):=by and_intros<;>exact E7
@[go_sem ↓]def amH:bJ K 147 []=kQ [.zero (.num 0),.zero (.num 0),.zero (.num 0)] []:=pA (is:=[]) E7 [] rfl
@[go_sem]def atI{l c i x f}(hf:f i= .map (enc l) c) n k:XS 291 (.map (enc l) c) i x f n k=k cA (.fn (bw f i (.map (enc (iO l x)) c)) n):=qV EG l c i x hf n k
@[go_sem ↓]def aAQ x:ak K 378 x 0=dy 0 x/\ak K 375 x 1=dy 1 x/\ak K 380 x 1=dy 2 x/\ak K 484 x 0=dy 0 x/\ak K 383 x 2=dy 2 x/\ak K 364 x 0=dy 0 x/\ak K 287 x 2=dy 4 x/\ak K 546 x 0=dy 0 x/\ak K 369 x 1=dy 1 x/\ak K 367 x 1=dy 1 x/\ak K 367 x 3=dy 3 x/\ak K 369 x 0=dy 0 x/\ak K 367 x 2=dy 2 x/\ak K 367 x 0=dy 0 x/\ak K 367 x 4=dy 4 x/\ak K 437 x 2=dy 2 x/\ak K 202 x 1=dy 1 x/\ak K 287 x 0=dy 0 x/\ak K 281 x 1=dy 0 x/\ak K 465 x 1=dy 1 x/\ak K 383 x 3=dy 3 x/\ak K 290 x 1=dy 1 x/\ak K 290 x 2=dy 2 x/\ak K 546 x 1=dy 1 x/\ak K 195 x 5=dy 5 x/\ak K 290 x 3=dy 3 x/\ak K 437 x 3=dy 3 x/\ak K 353 x 1=dy 1 x/\ak K 202 x 5=dy 8 x/\ak K 279 x 0=dy 0 x/\ak K 147 x 0=dy 0 x/\ak K 287 x 3=dy 5 x/\ak K 359 x 0=dy 0 x/\ak K 359 x 1=dy 1 x/\ak K 620 x 0=dy 0 x/\ak K 620 x 1=dy 1 x/\ak K 627 x 1=dy 1 x/\ak K 627 x 0=dy 0 x/\ak K 609 x 1=dy 1 x/\ak K 609 x 0=dy 0 x/\ak K 622 x 0=dy 0 x/\ak K 622 x 1=dy 1 x/\ak K 622 x 2=dy 2 x/\ak K 622 x 3=dy 3 x:=Vg
@[go_sem]def atK{l c i x f}(hf:f i= .map (enc l) c) n k:XS 208 (.map (enc l) c) i x f n k=k cA (.fn (bw f i (.map (enc (iO l x)) c)) n):=qV TS l c i x hf n k
@[go_sem]def atH{l c i x f}(hf:f i= .map (enc l) c) n k:XS 381 (.map (enc l) c) i x f n k=k cA (.fn (bw f i (.map (enc (iO l x)) c)) n):=qV EF l c i x hf n k
@[go_sem ↓]def aAP d s:aV K .copy [32,32] [d,s]=cpo 1 d s/\aV K .copy [25,25] [d,s]=cpo 1 d s/\aV K .copy [34,34] [d,s]=cpo 5 d s/\aV K .copy [33,33] [d,s]=cpo 4 d s:=⟨a8L (te:=3) E7 d s,a8L (te:=5) E7 d s,a8L (te:=49) E7 d s,a8L (te:=149) E7 d s⟩
@[go_sem ↓]def l4 a:bE K 4 a=kJ a:=RA E7 a
@[go_sem ↓]def aAO a:bE K 284 a=kJ a/\bE K 544 a=kJ a/\bE K 367 a=BZ 5 a/\bE K 198 a=kJ a/\bE K 270 a=kJ a/\bE K 576 a=kJ a/\bE K 551 a=kJ a/\bE K 21 a=kJ a/\bE K 577 a=BZ 5 a/\bE K 285 a=kJ a/\bE K 354 a=kJ a/\bE K 356 a=kJ a/\bE K 627 a=BZ 2 a/\bE K 625 a=kJ a/\bE K 622 a=BZ 4 a/\bE K 607 a=kJ a/\bE K 640 a=kJ a:=by and_intros<;>first|exact RA E7 a|exact aaH E7 a
@[go_sem ↓]def atV ok m k:gx K 544 m k ok=lko 544 (.agg (rp 64 (.ik .u8 0) [])) ok m k:=HK BN ok m k
end Go.Ev.Sy
namespace Go.Ev.Sy
open Go Go.Ev Go.Proofs
open Tryz
@[go_sem]def atA l c x h k:IJ 544 (.agg (rp 64 (.ik .u8 0) [])) false (.map (enc l) c) x h k=k ((cC l x).getD (.agg (rp 64 (.ik .u8 0) []))) h:=oX BN (λh=>Q8) l c x h k
@[go_sem ↓]def awG:dK K 543=vL 543 64 (rp 64 (.ik .u8 0) []):=aaJ E7
@[go_sem ↓]def axk a x:cZ K 543 a x=zQ 64 a x:=aaE E7 a x
@[go_sem ↓]def amE:bJ K 367 []=kQ [.zero (.bool false),.zero (.bool false),.zero (.num 0),.zero (.num 0),.zero (.num 0)] []:=pA (is:=[]) E7 [] rfl
@[go_sem ↓]def s4 a x:cZ K 4 a x=Nt a x:=adi E7 a x
@[go_sem ↓]def aBZ x:aV K .clear [32] [x]=clo 1 [.num 0] x:=a4y (te:=3) (m:=0) E7 E7 x
@[go_sem ↓]def aCd{op:BinOp}(A:op≠ .eql)(N:op≠ .neq) x y:da K op 79 x y=gj op x y:=adn E7 A N x y
@[go_sem ↓]def amB:bJ K 543 []=kQ (rp 64 (.zero (.ik .u8 0)) []) []:=pA (is:=[]) E7 [] rfl
@[go_sem]def atG{l c i x f}(hf:f i= .map (enc l) c) n k:XS 544 (.map (enc l) c) i x f n k=k cA (.fn (bw f i (.map (enc (iO l x)) c)) n):=qV BN l c i x hf n k
@[go_sem ↓]def aAN a e F S h:cX K 623 5 [(0,a),(1,e),(2,F),(3,S),(4,h)]=bso 627 10 [.agg 2,.agg 2,.agg 2,.agg 2,.agg 2] [.num 0,.fN] 5 [a,e,F,S,h]:=a8M (is:=[0,1,2,3,4]) E7 [a,e,F,S,h] rfl
@[go_sem ↓]def aC0 x:aV K .clear [25] [x]=clo 1 [.ik .u8 0] x:=a4y (te:=5) (m:=0) E7 E7 x
@[go_sem]def aAM:K.dr 516 6=some (iA 9)/\K.dr 517 4=some (dq 8 [(9,[]),(8,[9]),(10,[]),(11,[])]):=⟨E7,E7⟩
@[go_sem ↓]def aAL:eW K 183=xk (.xd .i64)/\eW K 347=xk (.xd .u32)/\eW K 413=xk (.yu)/\eW K 426=xk (.IA .i64)/\eW K 447=xk (.GX)/\eW K 448=xk (.a0p .i32)/\eW K 449=xk (.GX)/\eW K 450=xk (.race)/\eW K 452=xk (.race)/\eW K 453=xk (.IA .i32)/\eW K 7=xk (.holds)/\eW K 46=xk (.sorted 3 [76,126,270,569])/\eW K 115=xk (.mB 373 378 380):=⟨pZ func183 rfl,pZ func347 rfl,pZ func413 rfl,pZ func426 rfl,pZ func447 rfl,pZ func448 rfl,pZ func449 rfl,pZ func450 rfl,pZ func452 rfl,pZ func453 rfl,pZ func7 rfl,pZ func46 rfl,pZ func115 rfl⟩
@[go_sem ↓]def aAK:rD K 349=cdo 349/\rD K 350=cdo 350:=⟨ML func349 rfl rfl,ML func350 rfl rfl⟩
@[go_sem ↓]def aAJ:sO K 268=iM 268/\sO K 377=iM 377/\sO K 383=iM 383/\sO K 418=iM 418/\sO K 516=iM 516:=⟨sL func268 rfl rfl,sL func377 rfl rfl,sL func383 rfl rfl,sL func418 rfl rfl,sL func516 rfl rfl⟩
end Go.Ev.Sy

namespace Go.Ev.Sy
open Go Go.Ev Go.Proofs
open Tryz
section
def acg(a b r:Nat):((a:Int)+b).tmod r=(((a+b)%r:Nat):Int):=rfl
@[grind cases] structure oJ(f:av)(q c n hd lg:Nat)(g:dA):Prop where
 hq:f q=(.row 465 3 0 true [.au,.num 0,.num 0] (.cf (bI [.sl c 0 n (.known n),Q hd,Q lg])))
 hc:f c=(.row 3 n 0 true [.num 0] (.cf g))
 n0:0<n
 n1:n<=4096
 h1:hd<n
 h2:lg<=n
 ne:c≠q
variable {f:av} {q c n hd lg:Nat} {g:dA}
def xN(H:oJ f q c n hd lg g)(i:Nat)(N:i<n)(R:Rt)(m:Nat)(k):R.Y.call 351 [.ptr q 0,Q i] (.fn f m) k=k (Q ((hd+i)%n:Nat)) (.fn f m):=by obtain⟨e,F,h,d,A,_,_⟩:=H;have b:n<=9223372036854775807:=Z;have a:¬((n:Int)=0):=Z;refine cUx func351 ?_;refine zS ?_;rw[cB Z,acg]
def OW(H:oJ f q c n hd lg g)(N:1<n)(R:Rt)(m:Nat)(k):R.Y.call 351 [.ptr q 0,Q 1] (.fn f m) k=k (Q ((hd+1)%n:Nat)) (.fn f m):=xN H 1 N R m k
def JR(H:oJ f q c n hd lg g)(e:n=1)(R:Rt)(m:Nat)(k):R.Y.call 351 [.ptr q 0,Q 1] (.fn f m) k=k (Q ((hd+1)%n:Nat)) (.fn f m):=by obtain⟨N,F,i,d,A,_,_⟩:=H;have b:n<=9223372036854775807:=Z;have a:¬((n:Int)=0):=Z;refine cUx func351 ?_;simp only[go_sem,N,b,a];rw[cB Z,show((hd:Int)+1).tmod n=(((hd+1)%n:Nat):Int) from rfl]
def a2i(H:oJ f q c n hd lg g)(x:Int)(h:lg<n)(R:Rt)(m:Nat)(k):R.Y.Y.call 422 [.ptr q 0,Q x] (.fn f m) k=
  k (.bool true) (.fn (bw (bw f c (.row 3 n 0 true [.num 0] (.cf (cy g ((hd+lg)%n) (Q x))))) q (.row 465 3 0 true [.au,.num 0,.num 0] (.cf (bI [.sl c 0 n (.known n),Q hd,Q (lg+1:Nat)])))) m):=by
 have e:=xN H _ h;obtain⟨N,F,i,d,A,_,a⟩:=H;have b:n<=9223372036854775807:=Z;have j:¬((lg:Int)=(n:Int)):=Z;have z:(hd+lg)%n<n:=ke _ i;have l:q≠c:=Z;refine cUx func422 ?_;refine zS ?_;rw[cB Z];rfl
def Tv(H:oJ f q c n hd lg g)(i:Nat)(h:i<lg)(x:Int)(S:g ((hd+i)%n)=Q x)(R:Rt)(m:Nat)(k):R.Y.Y.call 269 [.ptr q 0,Q i] (.fn f m) k=k (.cI [Q x,.bool true]) (.fn f m):=by have e:=xN H i (by have:=H.h2;omega);obtain⟨N,F,l,d,A,M,a⟩:=H;have b:n<=9223372036854775807:=Z;have j:¬((lg:Int)<=(i:Int)):=Z;have o:¬((i:Int)<0):=Z;have z:(hd+i)%n<n:=ke _ l;refine cUx func269 ?_;exact zC
def a2k(H:oJ f q c n hd lg g)(h:0<lg)(x:Int)(S:g hd=Q x)(R:Rt)(m:Nat)(k):R.Y.Y.call 269 [.ptr q 0,Q 0] (.fn f m) k=k (.cI [Q x,.bool true]) (.fn f m):=
 Tv H 0 h x (by rw[j8,qv H.h1];trivial) R m k
def Gu(H:oJ f q c n hd 0 g)(R:Rt)(m:Nat)(k):R.Y.Y.call 269 [.ptr q 0,Q 0] (.fn f m) k=k (.cI [Q 0,.bool false]) (.fn f m):=by obtain⟨N,F,i,d,A,M,a⟩:=H;refine cUx func269 ?_;exact zC
def OX(H:oJ f q c n hd lg g)(h:0<lg)(x:Int)(S:g hd=Q x)(R:Rt)(m:Nat)(k):R.Y.Y.Y.call 458 [.ptr q 0] (.fn f m) k=k (.cI [Q x,.bool true]) (.fn f m):=by have e:=a2k H h x S;refine cUx func458 ?_;exact zC
def zo(H:oJ f q c n hd 0 g)(R:Rt)(m:Nat)(k):R.Y.Y.Y.call 458 [.ptr q 0] (.fn f m) k=k (.cI [Q 0,.bool false]) (.fn f m):=by have e:=Gu H;refine cUx func458 ?_;exact zC
def WG(H:oJ f q c n hd lg g)(h:0<lg)(x:Int)(S:g hd=Q x)(R:Rt)(m:Nat)(k):R.Y.Y.Y.Y.call 423 [.ptr q 0] (.fn f m) k=
  k (.cI [Q x,.bool true]) (.fn (bw (bw f q (.row 465 3 0 true [.au,.num 0,.num 0] (.cf (bI [.sl c 0 n (.known n),Q ((hd+1)%n:Nat),Q lg])))) q (.row 465 3 0 true [.au,.num 0,.num 0] (.cf (bI [.sl c 0 n (.known n),Q ((hd+1)%n:Nat),Q (lg-1:Nat)])))) m):=by
 have j:=OX H h x S;have e:∀(R:Rt) m k,R.Y.call 351 [.ptr q 0,Q 1] (.fn f m) k=k (Q ((hd+1)%n:Nat)) (.fn f m):=λR m k=>by
  rcases dN 1 n with A|A
  .exact OW H A R m k
  .exact JR H (by have:=H.n0;omega) R m k
 obtain⟨N,F,i,d,A,M,a⟩:=H;refine cUx func423 ?_;refine zS ?_;rw[cB Z,show(lg:Int)-1=((lg-1:Nat):Int) by omega]
def Bq(H:oJ f q c n hd 0 g)(R:Rt)(m:Nat)(k):R.Y.Y.Y.Y.call 423 [.ptr q 0] (.fn f m) k=k (.cI [Q 0,.bool false]) (.fn f m):=by have j:=zo H;refine cUx func423 ?_;exact zC
end
variable{c l lg m p:Nat}{f:av}{g:dA}
def JS{q n hd:Nat}(H:oJ f q c n hd lg g)(R:Rt)(m:Nat)(k):R.Y.call 185 [.ptr q 0] (.fn f m) k=k (Q lg) (.fn f m):=by have N:=H.hq;refine cUx func185 ?_;exact zC
def a2h{q:Nat}(f)(R:Rt)(m:Nat)(k):R.Y.call 186 [.ptr q 0] (.fn f m) k=k (.fn 268 [] [.ptr m 0]) (.fn (bw f m (.row 288 1 0 true [.bg] (.cf (bI [.ptr q 0])))) (pl m 1)):=by refine cUx func186 ?_;exact zC
def WE{R:Rt}{q n hd:Nat}(xs:dc)(J:Nat->av->dF)
  (s:∀i f m,J i f m->oJ f q c n hd lg g/\f p=(.row 288 1 0 true [.bg] (.cf (bI [.ptr q 0]))))
  (S:∀i,i<lg->g ((hd+i)%n)=Q (xs i)) (h0:J 0 f m)
  (o:∀i f m,i<lg->J i f m->Rd R.Y.Y.Y l [Q i,Q (xs i)] f m (λb y L=>b=true/\J (i+1) y L)):
  Cl R.Y.Y.Y.Y 268 [.yield l,.ptr p 0] f m (λ_ y L=>J lg y L):=by
 intro k v hk;have hL:=JS (s 0 f m h0).1;have hp:=(s 0 f m h0).2;refine cUx func268 ?_;refine zS ?_;refine cU (x:=.exit 0) (aF0:=λr e f m=>∃i,i+r=lg/\J i f m/\(eg 0).get e= .yield l/\(eg 1).get e= .ptr p 0/\(eg 7).get e=Q lg/\(eg 8).get e=Q i) (E:=λe f m=>J lg f m) (n:=lg) ⟨0,Z,h0,E6,E6,E6,E6⟩ (by rw[sA];have:=(s 0 f m h0).1.h2;have:=(s 0 f m h0).1.n1;omega) ?_ ?_
 .rintro r e f m ⟨i,F,z,w,u,C,H⟩ h j d P;unfold iB;by_cases A:i<lg
  .have hp:=(s i f m z).2;have M:=Tv (s i f m z).1 i A (xs i) (S i A);have c1:(i:Int)<lg:=Z;refine zS ?_;refine o i f m A z _ _ ?_;rintro b y L ⟨rfl,a⟩;have N:IntKind.i64.wrap ((i:Int)+1)=((i+1:Nat):Int):=by rw[cB (by have:=(s _ _ _ z).1.h2;have:=(s _ _ _ z).1.n1;omega)];rfl
   refine zS ?_;refine d (r-1) _ _ _ Z ⟨i+1,Z,a,?_,?_,?_,?_⟩<;>exact zC
  .have c1:¬((i:Int)<lg):=by omega
   refine zS ?_;grind
 .intro e f m z;simp only[go_sem];grind
variable{y:av}
def ll(f:av)(m:Nat)(v:V)(xs:dC):Prop:=
 (v= .au/\xs= [])\/∃i o c a t w z g,v= .sl i o xs.length c/\i<m/\f i= .row 3 a t w z (.cf g)/\o+xs.length<=a/\∀j (h:j<xs.length),g (o+j)=Q xs[j]
@[grind →] theorem ll.gr{L:Nat}{v:V}{xs:dC}(h:ll f m v xs)(g:B f m y L):ll y L v xs:=by
 rcases h with h|⟨i,o,c,a,t,w,z,F,A,N,M,u,r⟩
 .exact .inl h
 .exact .inr ⟨i,o,c,a,t,w,z,F,A,bW N g.le,Zs,u,r⟩
def a5h(f)(i n c:Nat)(hc:n<=c)(hn:n<=9223372036854775807)(R:Rt)(m:Nat)(k):R.Y.call 187 [.sl i 0 n (.known c)] (.fn f m) k=k (.sl i 0 n (.known n)) (.fn f m):=by refine cUx func187 ?_;simp only[go_sem,hc,hn,bP,j7]
def WH{R:Rt}{q n hd:Nat}(xs:dC)(H:oJ f q c n hd xs.length g)(hqm:q<m)(hcm:c<m)(S:∀i (h:i<xs.length),g ((hd+i)%n)=Q xs[i]):
  Cl R.Y.Y.Y.Y.Y 123 [.ptr q 0] f m (λv y L=>B f m y L/\ll y L v xs/\Nw m v):=by
 intro k T E;have LK:xs.length<=4096:=by have:=H.h2;have:=H.n1;omega
 have hn:xs.length<=4294967296:=Z;have b:8*xs.length<=281474976710656:=Z;have l:xs.length<=9223372036854775807:=Z;have hL:=JS H;have hA:=a2h (q:=q);refine cUx func123 ?_;refine zS ?_;refine sM ?_;intro w a;refine(WE (n:=n) (g:=g) (hd:=hd) (q:=q) (c:=c) (lg:=xs.length) (λi=>xs.getD i 0)
  (J:=λi y L=>(∀x,x<m->y x=f x)/\pl m 5<=L/\y (pl m 2)=(.row 288 1 0 true [.bg] (.cf (bI [.ptr q 0])))/\(∃s,y (pl m 1)= .row 32 1 0 true [.au] (.cf s)/\s 0= .sl m 0 i (.known xs.length))/\
   (∃s,y m=(.row 3 (xs.length) 0 true [.num 0] (.cf s))/\∀j (h:j<xs.length),j<i->s j=Q xs[j])/\y (pl m 3)= .sJ (some [])/\y (pl m 4)=w) ?_ ?_ ?_ ?_).go ?_
 case refine_1=>rintro i y L ⟨A,_,N,_⟩;refine⟨⟨by rw[A q hqm];exact H.hq,by rw[A c hcm];exact H.hc,H.n0,H.n1,H.h1,H.h2,H.ne⟩,N⟩
 case refine_2=>grind
 case refine_3=>
  refine⟨λx S=>?_,Z,?_,⟨cy (zf [.au]) 0 (.sl m 0 0 (.known xs.length)),?_,G⟩,⟨zf [.num 0],?_,Z⟩,?_,aK ..⟩
  .have P:x≠m:=by omega
   have q2:∀i,x≠pl m i:=λi=>O6;exact zC
  all_goals exact zC
 case refine_4=>
  rintro i y L hi ⟨A,hm,N,⟨s,M,u⟩,⟨z,r,F⟩,h7,h8⟩;intro k T E;have d:m≠L:=W;have n2:pl m 1≠L:=W;have t:pl m 2≠L:=W;have C:pl m 3≠L:=W;have n5:pl m 4≠L:=W;simp only[go_sem,kL,h8,a,M,u];refine Dd (g:=z) (mm:=xs.length) T9 Z (by refine zS ?_;omega) ?_;refine zS ?_;refine E true _ _ ⟨rfl,?_,?_,?_,⟨cy s 0 (.sl m 0 (i+1) (.known xs.length)),?_,G⟩,⟨laid i [Q (xs.getD i 0)] z,?_,?_⟩,?_,?_⟩
  .intro x S;have P:x≠m:=Z;have q2:∀i,x≠pl m i:=λi=>O6;have p:x≠L:=W;simp only[go_sem,P,q2,p];grind
  .unfold pl at hm ⊢;omega
  .exact zC
  .exact zC
  .exact zC
  .intro j hj ym;by_cases e:j=i
   .subst e;rw[du Z J1,mH,BQ];grind
   .rw [dL Z];grind
  .exact zC
  .exact zC
 case refine_5=>
  rintro v y L ⟨A,hm,N,⟨s,M,u⟩,⟨z,r,F⟩,h7,h8⟩;have hc:=a5h (n:=xs.length) (c:=xs.length) (hc:=Z) (hn:=l) (i:=m);have d:pl m 4≠L:=W;refine zS ?_;refine E _ _ _ ⟨⟨W,λx S=>?_⟩,.inr ⟨m,0,.known xs.length,xs.length,0,true,[.num 0],z,rfl,W,?_,Z,λj hj=>W⟩,λx o n c e=>Xg⟩
  .have P:x≠m:=by omega
   have q2:∀i,x≠pl m i:=λi=>O6;simp only[go_sem,q2];exact A x S
  .exact zC
end Go.Ev.Sy
namespace Go.Ev.Sy
open Go Go.Ev Go.Proofs
variable{h:Heap}{M c i jE l m m2 p t te:Nat}{o2 own:aG}{F f y:av}{xs zs:ay}{k:cR}{g:dA}
attribute [go_sem] and_true true_and and_false false_and and_self or_true true_or or_false false_or not_true_eq_false not_false_eq_true
@[go_sem]def at3(m i j:Nat):(pl m i<pl m j)=(i<j):=W
@[go_sem]def anQ(m j:Nat):(m<pl m j)=(0<j):=W
def zw(x:Nat):aI->aI
 |[]=>[x]
 |y::t=>if x<=y then x::y::t else y::zw x t
def yH:aI->aI
 |[]=>[]
 |x::t=>zw x (yH t)
def a8h(x:Nat)(l)(k:aI->Bool):a3Y x l k=k (zw x l):=by
 induction l generalizing k with
 |nil=>rfl
 |cons y t H=>
  show aR (Nat.ble x y) (k (x::y::t)) (a3Y x t (λl=>k (y::l)))=_;unfold zw;by_cases h:x<=y
  .rw [cw h,ao h]
  .rw [ml h,aj h,H]
def a1V(l)(k:aI->Bool):Eb l k=k (yH l):=by
 induction l generalizing k with
 |nil=>rfl
 |cons x t H=>show Eb t (λl=>a3Y x l k)=_;rw[H,a8h];rfl
def KU(x y:Nat)(l):y∈zw x l↔y=x\/y∈l:=by
 induction l with
 |nil=>simp[zw]
 |cons z t H=>unfold zw;grind
def xW(y:Nat)(l):y∈yH l↔y∈l:=by
 induction l with
 |nil=>trivial
 |cons x t H=>unfold yH;rw[KU,H];simp
def YD{x:Nat}{l:aI}(hl:l.Pairwise (· < ·))(S:x∉l):(zw x l).Pairwise (· < ·):=by
 induction l with
 |nil=>simp[zw]
 |cons y t H=>
  have N:=uy.1 hl;have a:x≠y:=λe=>W;unfold zw;split
  .rename_i h;refine uy.2 ⟨λz C=>?_,hl⟩;grind
  .rename_i h;refine uy.2 ⟨λz C=>?_,W⟩;rcases(KU ..).1 C with rfl|C
   .omega
   grind
def ON{l:aI}(hl:l.Nodup):(yH l).Pairwise (· < ·):=by
 induction l with
 |nil=>trivial
 |cons x t H=>have h:=iK.1 hl;exact YD W (λR=>h.1 ((xW ..).1 R))
def zX:∀{l r:aI},l.Pairwise (· < ·)->r.Pairwise (· < ·)->(∀x,x∈l↔x∈r)->l=r
 |[],[],_,_,_=>rfl
 |[],y::_,_,_,h=>absurd ((h y).2 J1) J1
 |x::_,[],_,_,h=>absurd ((h x).1 J1) J1
 |x::t,y::u,A,N,h=>by
  have c:=uy.1 A;have i:=uy.1 N;have a:x=y:=by
   rcases fY.1 ((h x).1 J1) with e|e
   .exact e
   .rcases fY.1 ((h y).2 J1) with b|b
    .exact b.symm
    grind
  subst a;rw[zX c.2 i.2 (λz=>⟨λC=>?_,λC=>?_⟩)]
  .grind
  grind
def a2g{l:aI}{a:Nat}(h:l.Pairwise (· < ·))(S:∀x∈l,a<=x)(k:Bool):Eg l a k=k:=by
 induction l generalizing a with
 |nil=>rfl
 |cons x t H=>show aR (Nat.ble a x) (Eg t (x+1) k) false=k;rw[cw (S x J1)];have N:=uy.1 h;grind
def a3R{l:List (Int×V×Nat)}{a:Nat}(h0:∀p∈l,0<=p.1/\p.1<=9223372036854775807)(M:(l.map (·.2.2)).Pairwise (· < ·))(S:∀p∈l,a<=p.2.2)(hc:∀p∈l,p.2.2<c)(d:a<=c)(k:aI->Bool):Cc (enc l) c a k=k (l.map λp=>p.1.toNat):=by
 induction l generalizing a k with
 |nil=>exact cw d _ _
 |cons p t H=>obtain⟨x,v,b⟩:=p;have A:=h0 _ (ko ..);have N:=uy.1 M;show aR (Nat.ble a b) (V.wc (Q x) (λn=>Cc (enc t) c (b+1) (λl=>k (n::l)))) false=_;rw[cw (S _ (ko ..)),Cf A];show Cc (enc t) c (b+1) (λl=>k (x.toNat::l))=_;rw[H W W (λp g=>N.1 _ W) W (hc _ W)];rfl
def oc(l:List (Int×V×Nat)):aI:=yH (l.map λp=>p.1.toNat)
def qL{l:List (Int×V×Nat)}(w:Wf l c)(h0:∀p∈l,0<=p.1):(oc l).Pairwise (· < ·):=by refine ON ?_;have:=w.keys;rw[pq,uA] at this ⊢;exact this.imp_of_mem W
def xX{l:List (Int×V×Nat)}(h0:∀p∈l,0<=p.1)(x:Nat):x∈oc l↔cC l (x:Int)≠none:=by unfold oc;rw[xW,Ne,lO,Classical.not_not,fA,fA];grind
def xy{R:Rt}{e a:Nat}{C:aI}{z:ay}{l:List (Int×V×Nat)}{T:Bool}(hf:F p= .row t 1 0 true z (.cf g))(hg:g 0= .map i)(hm:F i= .map (enc l) c)(w:Wf l c)
  (h0:∀p∈l,0<=p.1/\p.1<=9223372036854775807) (hl:l.length<=65536) (b:e=3) (o:a81 a C=true)
  (E:∀v M L,B F m M L->ll M L v ((oc l).map λ(x:Nat)=>(x:Int))->k v (.fn M L)=T):(xk (.sorted e C)).run R [.fn a [] [.ptr p 0]] (.fn F m) k=T:=by
 subst b;show(a4O K (.sorted 3 C)).run [.fn a [] [.ptr p 0]] (.fn F m) k=T;unfold a4O;show aR (a81 a C) (jT p 0 (.fn F m) (λL=>V.cH L (λi=>O.cH (bL i (.fn F m)) (λes c=>Cc es c 0 (λu=>ek u (k .au (.fn F m)) (λ_ _=>Eb u (λu=>Eg u 0 (bQ (u.map V.num) [] (λcs=>gy (eK cs) (λn=>aR (Nat.ble n 65536) (ey 3 n 0 _ cs (.fn F m) (λi h=>k (.sl i 0 n (.less 0 1)) h)) false)))))))) (k .au (.fn F m)))) false=T;rw[o,sE,a2f];show O.eO (F p) _=T;rw[hf];show V.bt (g 0) _ _=T;rw[hg];show O.cH (F i) _=T;rw[hm];show Cc (enc l) c 0 _=T;rw[a3R h0 w.stamps Z w.lt Z];have d:=qL w W;have P:(oc l).length=l.length:=by
  have A:∀(x:Nat) (r:aI),(zw x r).length=r.length+1:=by
   intro x r;induction r with
   |nil=>rfl
   |cons y t H=>unfold zw;grind
  have N:∀r:aI,(yH r).length=r.length:=by
   intro r;induction r with
   |nil=>rfl
   |cons y t H=>unfold yH;grind
  unfold oc;rw[N,dT]
 cases l with
 |nil=>exact E _ _ _ (B.refl ..) (.inl ⟨rfl,rfl⟩)
 |cons q l=>
  show Eb _ _=T;rw[a1V];show Eg (oc (q::l)) 0 _=T;rw[a2g d Z,bB,j9];have s:∀x∈oc (q::l),x<=9223372036854775807:=by intro x S;unfold oc at S;obtain⟨p,hp,e⟩:=fA.1 ((xW ..).1 S);have:=h0 p hp;rw[←e];omega
  show gy (eK (List.map V.num (oc (q::l)))) (λn=>aR (Nat.ble n 65536) (ey 3 n 0 _ (List.map V.num (oc (q::l))) (.fn F m) (λi h=>k (.sl i 0 n (.less 0 1)) h)) false)=T;generalize oc (q::l)=u at *;rw[LY,dx,dT,P,cw hl];unfold ey;rw[rq,wB];refine E _ _ _ (B.refl F m).new (.inr ⟨m,0,.less 0 1,(q::l).length,0,false,_,_,W,W,aK ..,by rw[dT,P];omega,λj hj=>?_⟩);have f:j<u.length:=by simpa using hj
  rw[dz,k9 _ _ f];simp only[rW];exact yW _ (s _ W)
def B.w{r d:av}{s:Nat}(h:B r l d m2)(R:m2<=s):B r l d s:=⟨W,h.ah⟩
def Fr.w{P:dF}{a:aG}{r d:av}{s:Nat}(h:Fr P a r l o2 d m2)(R:m2<=s):Fr P a r l o2 d s:=⟨W,h.same,h.ah,λb x S=>h.z b x Z⟩
@[grind →] theorem Fr.gr{L:Nat}{t:aG}(h:Fr (· =1) (λ_=>0) f m t y L):B f m y L:=⟨h.le,λx S=>h.ah x S I⟩
def ll.at{v:V}{xs:dC}(h:ll f m v xs)(F:i<xs.length):∃b o cp mm fz w z g,v= .sl b o xs.length cp/\b<m/\f b= .row 3 mm fz w z (.cf g)/\o+i<mm/\g (o+i)=Q xs[i]:=by
 rcases h with⟨_,rfl⟩|⟨b,o,cp,mm,fz,w,z,g,A,N,M,u,r⟩
 .trivial
 .exact ⟨b,o,cp,mm,fz,w,z,g,A,N,M,Z,W⟩
def ll.len{v:V}{xs:dC}(h:ll f m v xs):v= .au/\xs= []\/∃b o cp,v= .sl b o xs.length cp:=by
 rcases h with h|⟨b,o,cp,a,t,w,z,g,A,_⟩
 .grind
 grind
def aP{R:Rt}{n:Nat}{c:Di}{T:Bool}(h:∀i,i=F-> @UU R n xs (.fn i M) c=T): @UU R n xs (.fn F M) c=T:=W
def fG{v:V}{T:Bool}(h:∀i,i=F->k v (.fn i M)=T):k v (.fn F M)=T:=W
def a3w{f:Nat}{a:Code}{R:Rt}{rd:Nat}{ds:List D}{e:Env}{j:X->cF}{T:Bool}(s:iB f a R rd ds e h (λds e h=>Lj f a R rd ds e h j 999999) j=T):Lj f a R rd ds e h j iq=T:=s
def gE{z:Nat}{v:V}{n:Nat}{cs:ay}{T:Bool}(h:∀i,i=F->gp te z jE zs v n cs (.fn i M) k=T):gp te z jE zs v n cs (.fn F M) k=T:=W
def kW{f:Nat}{a:Code}{R:Rt}{rd:Nat}{ds:List D}{j:X->cF}{T:Bool}{n q:Nat}{e:Env}{g:av}(aF0:Nat->Env->av->dF)(E:X->Env->av->dF)
  (h0:aF0 n e g m) (N:n<q)
  (step:∀n e g m,aF0 n e g m->∀(r:cF) (j:X->cF),(∀n' e' P L,n'<n->aF0 n' e' P L->r ds e' (.fn P L)=T)->(∀x e' P L,E x e' P L->j x ds e' (.fn P L)=T)->iB f a R rd ds e (.fn g m) r j=T)
  (S:∀x e' P L,E x e' P L->j x ds e' (.fn P L)=T):Lj f a R rd ds e (.fn g m) j q=T:=by
 induction n using Nat.strongRecOn generalizing e g m q with
 |_ n H=>obtain⟨q,rfl⟩:∃p,q=p+1:=⟨q-1,Z⟩;rw[Li];exact step n e g m h0 _ j (λn' e' P L b h=>H n' b h Z) S
def cm(own:aG)(m:Nat)(l:aI):aG:=λx=>if m<=x/\x-m<l.length then l.getD (x-m) 0 else own x
def Fr.cm{P:dF}{n:Nat}(h:Fr P own f m own F (pl m n)){l:aI}(hl:l.length<=n):Fr P own f m (Sy.cm own m l) F (pl m n):=
 ⟨h.le,λx S=>aj (λh=>Z),h.ah,λs x S=>by unfold Sy.cm;rw[aj W];exact h.z s x S⟩
def gh{n:Nat}{l:aI}{o:O}(j:F (pl m i)=o)(hc:l[i]? =some c)(hl:l.length<=n):At (cm own m l) c F (pl m n) (pl m i) o:=by
 have a:i<l.length:=by
  rcases dN i l.length with h|h
  .exact h
  .grind
 refine⟨j,?_,W⟩;unfold cm pl;grind
def ez{n:Nat}{l:aI}{o:O}(j:F m=o)(hc:l[0]? =some c)(hl:l.length<=n):At (cm own m l) c F (pl m n) m o:=gh (i:=0) j hc hl
def ll.jD{v:V}{xs:dC}(h:ll f m v xs)(hn:xs.length<=9223372036854775807)(q:aY):Sy.jD v q=q (Q xs.length):=by
 rcases h.len with⟨rfl,rfl⟩|⟨b,o,cp,rfl⟩
 .rfl
 .rw [PN,gP hn]
def i7.jD{z n:Nat}{v:V}{cs:ay}(h:i7 f m te z v n cs)(hn:n<=9223372036854775807)(q:aY):Sy.jD v q=q (Q n):=by
 rcases h with⟨rfl,rfl,_⟩|⟨b,o,cp,a,t,w,P,g,rfl,_⟩
 .rfl
 .rw [PN,gP hn]
def bS.jD{z n:Nat}{v:V}{cs:ay}(h:bS own c f m te z v n cs)(hn:n<=9223372036854775807)(q:aY):Sy.jD v q=q (Q n):=h.uf.jD hn q
def Ts(z:Int):V.same (Q z) (Q z)=true:=by
 rcases gk z with⟨n,_,rfl,h⟩|⟨_,h⟩<;>rw[h]
 .exact fP n
 .show aR (Nat.beq 3 3) (mR z z) false=true;rw[gW];simp;rfl
def rK(l:ay):Prop:=∀u∈l,V.same u u=true
@[go_sem]def aaX:rK []=True:=eq_true (λu L=>by simp at L)
@[go_sem]def aea(x:Int)(l):rK (Q x::l)=rK l:=propext ⟨λh u L=>h u W,λh u L=>by rcases fY.1 L with rfl|L;exact Ts x;exact h u L⟩
@[go_sem]def akI{cs:ay}(h:rK cs)(r:iR)(R)(ds:List D)(e g)(k:cF):tR (.agg cs) (.agg cs) r R ds e g k=r.run R ds e g k:=xA (by
 show V.Ee cs cs=true
 induction cs with
 |nil=>rfl
 |cons x t H=>show aR (V.same x x) (V.Ee t t) false=true;rw[h x W];exact H (λu L=>h u W)) ..
def i7.tR{z n:Nat}{v:V}{cs:ay}(h:i7 f m te z v n cs)(r:iR)(R)(ds:List D)(e g)(k:cF):Sy.tR v v r R ds e g k=r.run R ds e g k:=by
 rcases h with⟨rfl,_⟩|⟨_,_,_,_,_,_,_,_,rfl,_⟩
 .trivial
 .exact a1r ..
def bS.tR{z n:Nat}{v:V}{cs:ay}(h:bS own c f m te z v n cs)(r:iR)(R)(ds:List D)(e g)(k:cF):Sy.tR v v r R ds e g k=r.run R ds e g k:=h.uf.tR r R ds e g k
def qS(x:Int):∀u∈ [Q x],u≠ .undef:=by intro u L;rw[rY.1 L];exact iW x
section
variable {own:aG} {c:Nat} {f:av} {m te z n:Nat} {v:V} {cs:ay}
def bS.bC(h:bS own c f m te z v n cs):v≠ .undef:=by rcases h with⟨rfl,_⟩|⟨i,u,cp,a,w,P,g,rfl,_⟩<;>exact λh=>Q8
def bS.live(h:bS own c f m te z v n cs)(q:aY):V.live v q=q v:=bN h.bC q
def bS.bt(h:bS own c f m te z v n cs)(q:aY)(d:Bool):V.bt v q d=q v:=by rcases h with⟨rfl,_⟩|⟨i,u,cp,a,w,P,g,rfl,_⟩<;>rfl
def bS.one(h:bS own c f m te z v n cs)(q:aY):V.one v q=q v:=by rcases h with⟨rfl,_⟩|⟨i,u,cp,a,w,P,g,rfl,_⟩<;>rfl
end
end Go.Ev.Sy
namespace Go.Ev.Sy
open Go Go.Ev Go.Proofs
open Tryz
variable{y:av}
def fB(b:bs)(i:Nat)(v:Bool):bs:=λj=>if j=i then v else b j
def vV(g:aG)(i v:Nat):aG:=λj=>if j=i then v else g j
structure rG where
 r:Nat
 mp:Nat
 g:dA
 l:List (Int×V×Nat)
 ck:Nat
 cv:V
 cl:aI
 fr:Nat
@[grind cases] structure fF(own:aG)(c:Nat)(f:av)(m S N:Nat)(gen:aG)(op:bs)(cV:Nat)(a:rG):Prop where
 aS:At own c f m S (.row 383 4 0 true [.au,.fR,.au,.num 0] (.cf (bI [.sl a.r 0 N (.known N),.map a.mp,a.cv,Q a.fr])))
 ar:At own c f m a.r (.row 3 N 0 true [.num 0] (.cf (a.g)))
 am:At own c f m a.mp (.map (enc a.l) a.ck)
 wf:Wf a.l a.ck
 cv:bS own (c+1) f m 3 1 a.cv a.cl.length (a.cl.map λ(x:Nat)=>Q x)
 n1:N<=4096
 g:∀i,i<N->a.g i=Q (gen i)
 mo:∀x:Int,cC a.l x=if 0<=x/\op x.toNat=true then some (.bool true) else none
 nd:a.cl.Nodup
 clt:∀x∈a.cl,x<a.fr/\op x=false
 all:∀x,x<a.fr->op x=false->x∈a.cl
 fr:a.fr<=N
 new:∀x,a.fr<=x->op x=false
 cV:a.fr=a.cl.length+cV
section
variable {own:aG} {c:Nat} {f:av} {m S N cV:Nat} {gen:aG} {op:bs} {a:rG}
def fF.ah{P:dF}{t:aG}{L:Nat}(h:fF own c f m S N gen op cV a)(q:Fr P own f m t y L)(b:¬P c)(i:¬P (c+1)):fF t c y L S N gen op cV a:=
 ⟨h.aS.ah q b,h.ar.ah q b,h.am.ah q b,h.wf,h.cv.ah q i,h.n1,h.g,h.mo,h.nd,h.clt,h.all,h.fr,h.new,h.cV⟩
def fF.lt(h:fF own c f m S N gen op cV a){x:Nat}(b:op x=true):x<a.fr:=by
 rcases dN x a.fr with A|A
 .trivial
 .rw [h.new x A] at b;trivial
def oQ(H:fF own c f m S N gen op cV a)(p g:Int)(R:Rt)(L:Nat)(k):
  R.Y.call 356 [.ptr S 0,Q p,Q g] (.fn f L) k=k (.bool (decide (0<=p/\op p.toNat=true/\(gen p.toNat:Int)=g))) (.fn f L):=by
 have P:=H.aS.obj;have l:=H.am.obj;have d:=H.ar.obj;have n:=H.mo p;have w:N<=9223372036854775807:=O8;by_cases A:0<=p/\op p.toNat=true
 .rw [ao A] at n;obtain⟨q,rfl⟩:∃q:Nat,p=q:=W;have i:op q=true:=by simpa using A.2
  have b:q<N:=bW (H.lt i) H.fr;have j:=H.g q b;have e:pb ((gen q:Int)=g)=decide (0<=(q:Int)/\op (q:Int).toNat=true/\(gen (q:Int).toNat:Int)=g):=by
   by_cases h:(gen q:Int)=g
   .rw [mZ h,dI];grind
   .rw [kM h,dB];grind
  rw[←e];refine cUx func356 ?_;exact zC
 .rw [aj A] at n;rw[dB W];refine cUx func356 ?_;exact zC
def xI(H:fF own c f m S N gen op cV a)(p:Nat)(b:p<N)(R:Rt)(L:Nat)(k):
  R.Y.call 206 [.ptr S 0,Q p] (.fn f L) k=k (Q (gen p)) (.fn f L):=by
 have P:=H.aS.obj;have d:=H.ar.obj;have e:=H.g p b;have w:N<=9223372036854775807:=O8;have c1:¬((p:Int)<0):=Z;have c2:¬((N:Int)<=p):=Z;refine cUx func206 ?_;exact zC
def Gj{R:Rt}(H:fF own c f m S N gen op cV a):
  Cl R.Y.Y 125 [.ptr S 0] f m (λv y L=>B f m y L/\∃os:aI,os.Pairwise (· < ·)/\(∀x,x∈os↔op x=true)/\ll y L v (os.map λ(x:Nat)=>(x:Int))):=by
 intro k q E;have P:=H.aS.obj;have r:∀p∈a.l,0<=p.1/\p.1<4096:=by
  intro p C;have A:cC a.l p.1≠none:=λh=>lO.1 h W;rw[H.mo] at A;split at A
  .rename_i j;have:=H.lt j.2;have:=H.fr;have:=H.n1;omega
  .trivial
 have s:a.l.length<=4096:=by
  have A:=dg (n:=4096) (l:=a.l.map λp=>p.1.toNat) (by have:=H.wf.keys;rw[pq,uA] at this ⊢;exact this.imp_of_mem W) W
  simpa using A
 refine cUx func125 ?_;refine zS ?_;refine cUx func188 ?_;refine zS ?_;have u:a.mp≠m:=R0;refine xy (i:=a.mp) (l:=a.l) (c:=a.ck) T9 E6 (by refine zS ?_;exact H.am.obj) H.wf W Z rfl I ?_;intro v y L e d;have b:=d;refine Eq.trans ?_ (E v y L ⟨(B.refl f m).new.trans e,oc a.l,qL H.wf W,λx=>?_,b⟩)
 .rcases d with⟨rfl,_⟩|⟨i,o,cp,F,t,w,z,g,rfl,_⟩<;>exact zC
 .rw [xX W,H.mo];grind
end
variable{i j:Nat}
section
variable {own:aG} {c:Nat} {f:av} {m S N cV:Nat} {gen:aG} {op:bs} {a:rG}
def dn{b:bs}{v:Bool}(h:j≠i):fB b i v j=b j:=aj h
def fu(b:bs)(i:Nat)(v:Bool):fB b i v i=v:=ao rfl
def a7e{b:aG}{v:Nat}(h:j≠i):vV b i v j=b j:=aj h
def Wx(b)(i:Nat)(v:Nat):vV b i v i=v:=ao rfl
def OQ{R:Rt}(H:fF own c f m S N gen op cV a)(hc:cV<N):
  Cl R.Y 360 [.ptr S 0] f m (λv f' L=>∃(p RC:Nat) (cl':aI) (cv':V),v= .cI [Q p,.bool true]/\L=m/\p<N/\op p=false/\f'=bw f S (.row 383 4 0 true [.au,.fR,.au,.num 0] (.cf (bI [.sl a.r 0 N (.known N),.map a.mp,cv',Q RC])))/\
   bS own (c+1) f m 3 1 cv' cl'.length (cl'.map λ(x:Nat)=>Q x)/\p<RC/\p∉cl'/\cl'.Nodup/\(∀x∈cl',x<RC/\op x=false)/\(∀x,x<RC->op x=false->x=p\/x∈cl')/\RC<=N/\(∀x,RC<=x->op x=false)/\RC=cl'.length+(cV+1)):=by
 intro k T E;have P:=H.aS.obj;have hr:=H.ar.obj;have n9:N<=9223372036854775807:=O8;have M:=H.cV;have hfr:=H.fr;have LK:=H.n1;rcases a16 a.cl with s|⟨t,x,s⟩
 .have d:=H.cv;rw[s] at M;have u:((a.fr:Int)<N):=by simp at M;omega
  have ew:IntKind.i64.wrap ((a.fr:Int)+1)=((a.fr+1:Nat):Int):=Qf;have C:IntKind.i64.wrap (((a.fr+1:Nat):Int)-1)=((a.fr:Nat):Int):=Ql;have A:k (.cI [Q a.fr,.bool true]) (.fn (bw f S (.row 383 4 0 true [.au,.fR,.au,.num 0] (.cf (bI [.sl a.r 0 N (.known N),.map a.mp,a.cv,Q (a.fr+1:Nat)])))) m)=T:=by
   refine E _ _ _ ⟨a.fr,a.fr+1,[],a.cv,rfl,rfl,Z,W,rfl,W,Z,J1,J1,J1,λy hy hb=>?_,Z,λy hy=>W,Z⟩;rcases dN y a.fr with h1|h1
   .grind
   .omega
  rw[s] at d;rcases d with⟨e,_⟩|⟨i,o,cp,mm,w,zs,g,e,hA,h3,h4,h5,F,h7⟩
  .rw [e] at P A;refine cUx func360 ?_;simp only[go_sem,P,n9,u,ew,C];trivial
  .rw [e] at P A;simp only[FP] at P A;refine cUx func360 ?_;simp only[go_sem,P,n9,u,ew,C];trivial
 .have d:=H.cv;have tI:a.cl.length=t.length+1:=by rw[s];simp
  have l:a.cl.length<=4096:=Z;rcases d with⟨e,e2,_⟩|⟨i,o,cp,mm,w,zs,g,e,hA,h3,h4,h5,F,h7⟩
  .omega
  have d:=H.cv;have j:a.cl.length<=9223372036854775807:=Z;have ew:IntKind.i64.wrap ((a.cl.length:Int)-1)=((t.length:Nat):Int):=Ql;have c1:(0:Int)<a.cl.length:=Z;have c2:t.length<a.cl.length:=Z;have c3:o+t.length<mm:=Z;have hf:=hA.obj;have hv:g (o+t.length)=Q x:=by have:=h5 t.length Z;rw[this,k9 _ _ Z];simp only[s,a1c];simp
  have Hz:=λz mm h b (q:aY) hc hh=>As (cp:=cp) (n:=a.cl.length) (o:=o) (z:=z) (mm:=mm) (h:=h) (b:=b) (q:=q) hc hh;have c4:t.length<=a.cl.length:=Z;have HE:=λb q=>As (h:=t.length) (b:=b) (q:=q) h7 c4;have en:S≠i:=W;rw[e] at P d;refine cUx func360 ?_;simp only[go_sem,P,hf,j,c1,c2,c3,hv,ew, ↓HE];have hx:x<a.fr/\op x=false:=W;have Cq:=H.nd;rw[s,a1c,jS] at Cq;refine E _ _ _ ⟨x,a.fr,t,.sl i o t.length cp,rfl,rfl,Z,W,rfl,?_,Z,λhm=>W,W,λy hy=>W,λy hy hb=>?_,H.fr,H.new,Z⟩
  .have:=d.pre c4;grind
  grind
def uL{R:Rt}(H:fF own c f m S N gen op cV a)(hc:cV<N):
  Cl R.Y.Y 289 [.ptr S 0] f m (λv y L=>∃p:Nat,v= .cI [Q p,Q (gen p),.bool true]/\L=m/\p<N/\op p=false/\(∃a',fF own c y m S N gen (fB op p true) (cV+1) a')/\Fr (· =c) own f m own y m):=by
 intro k T E;refine cUx func289 ?_;simp only[go_sem, ↓ag 360];apply(OQ H hc).bu;rintro v y L ⟨p,e,i,n,rfl,rfl,t,ho,rfl,d,h1,h2,M,z,h5,F,h7,j⟩;have hr:=H.ar.obj;have P:=H.am.obj;have C:=H.g p t;have u:S≠a.r:=H.aS.kv H.ar W;have b:S≠a.mp:=H.aS.kv H.am qM;have A:a.r≠a.mp:=W;have w:N<=9223372036854775807:=O8;simp only[go_sem,u.symm,b,b.symm,A,hr,P,C,t];have q:Fr (· =c) own f L own (bw (bw f S (.row 383 4 0 true [.au,.fR,.au,.num 0] (.cf (bI [.sl a.r 0 N (.known N),.map a.mp,n,Q e])))) a.mp (.map (enc (eJ a.l p (.bool true) a.ck)) (im a.l p a.ck))) L:=((Fr.refl _ own f L).bw (λ_=>H.aS.own)).bw (λ_=>H.am.own);refine E _ _ _ ⟨p,rfl,rfl,t,ho,⟨⟨a.r,a.mp,a.g,eJ a.l p (.bool true) a.ck,im a.l p a.ck,n,i,e⟩,⟨⟨E6,H.aS.own,H.aS.lt⟩,⟨by simp only[go_sem,A,u.symm];trivial,H.ar.own,H.ar.lt⟩,⟨aK ..,H.am.own,H.am.lt⟩,H.wf.set _ _,?_,H.n1,H.g,λx=>?_,M,λx o=>?_,λx o s=>?_,F,λx o=>?_,j⟩⟩,q⟩
 .exact d.ah q Z
 .rw [dR,H.mo];by_cases h:(p:Int)=x
  .subst h;rw[ao rfl,ao ⟨Z,by show fB op p true p=true;exact fu ..⟩]
  .rw [aj h];by_cases h0:0<=x
   .have:x.toNat≠p:=by omega
    rw[dn this]
   grind
 .have:=z x o;rw[dn W];exact this
 .by_cases h:x=p
  .subst h;rw[fu] at s;trivial
  .rw [dn h] at s;grind
 .have o:e<=x:=o;rw[dn Z];grind
def sd{R:Rt}(H:fF own c f m S N gen op cV a)(p:Nat)(ho:op p=true)(hg:gen p<=1099511627776):
  Cl R.Y.Y 295 [.ptr S 0,Q p,Q (gen p)] f m (λv y L=>v= .bool true/\∃t,(∃a',fF t c y L S N (vV gen p (gen p+1)) (fB op p false) (cV-1) a')/\0<cV/\Fr (λx=>x=c\/x=c+1) own f m t y L):=by
 intro k T E;have hR:=oQ H p (gen p);have e0:decide (0<=(p:Int)/\op (p:Int).toNat=true/\(gen (p:Int).toNat:Int)=gen p)=true:=W;rw[e0] at hR;have A:=H.lt ho;have hp:p<N:=bW A H.fr;have P:=H.aS.obj;have hr:=H.ar.obj;have hm:=H.am.obj;have hgp:=H.g p hp;have u:S≠a.r:=W;have b:S≠a.mp:=W;have e3:a.r≠a.mp:=W;have w:N<=9223372036854775807:=O8;have ew:IntKind.i64.wrap ((gen p:Int)+1)=((gen p+1:Nat):Int):=Qf;have C:S≠m:=by have:=H.aS.lt;omega
 have e5:a.r≠m:=by have:=H.ar.lt;omega
 have z:a.mp≠m:=R0;have Cq:(p::a.cl).Nodup:=iK.2 ⟨λh=>(by have:=(H.clt p h).2;grind),H.nd⟩;have zy:a.cl.length+1<=a.fr:=dg Cq (λx hx=>by rcases fY.1 hx with rfl|hx;exact A;exact(H.clt x hx).1);have M:=H.cV;have n:=H.fr;have LK:=H.n1;refine cUx func295 ?_;simp only[go_sem,hR,P,hr,hm,hgp,hp,u,b,e3,ew,H.cv.bt];obtain⟨F,j⟩:∃F,bw (bw (bw f a.mp (.map (enc (iO a.l p)) a.ck)) a.r (.row 3 N 0 true [.num 0] (.cf (cy a.g p (Q (gen p+1:Nat)))))) m (.row 3 1 0 true [.num 0] (.cf (bI [Q p])))=F:=W;rw[j];have q:Fr (· =c) own f m own F (pl m 1):=by rw[←j];exact(((Fr.refl _ own f m).bw (λ_=>H.am.own)).bw (λ_=>H.ar.own)).new
 refine dv (H.cv.ah q Z) (n':=1) rfl (qS _) Z Z ?_;intro v' t y L hv q2;have d:=hv.one;have q3:Fr (λx=>x=c\/x=c+1) own f m t y L:=q.trans q2 Z Z;have aS:At own c F (pl m 1) S (.row 383 4 0 true [.au,.fR,.au,.num 0] (.cf (bI [.sl a.r 0 N (.known N),.map a.mp,a.cv,Q a.fr]))):=⟨by rw[←j];simp only[go_sem,u,b,C];trivial,H.aS.own,by have:=H.aS.lt;unfold pl;omega⟩;have ar:At own c F (pl m 1) a.r (.row 3 N 0 true [.num 0] (.cf (cy a.g p (Q (gen p+1:Nat))))):=⟨by rw[←j];exact zC,H.ar.own,by have:=H.ar.lt;unfold pl;omega⟩;have am:At own c F (pl m 1) a.mp (.map (enc (iO a.l p)) a.ck):=⟨by rw[←j];simp only[go_sem,z,e3.symm],H.am.own,Jp⟩;have hS2:=(aS.ah q2 Z).obj;simp only[go_sem,d,hS2];refine E _ _ _ ⟨rfl,t,⟨⟨a.r,a.mp,cy a.g p (Q (gen p+1:Nat)),iO a.l p,a.ck,v',a.cl++ [p],a.fr⟩,⟨⟨aK ..,(aS.ah q2 Z).own,(aS.ah q2 Z).lt⟩,?_,?_,H.wf.del _,?_,H.n1,λi hi=>?_,λx=>?_,?_,λx hx=>?_,λx hx s=>?_,H.fr,λx hx=>?_,?_⟩⟩,Z,q3.bw (λ_=>.inl H.aS.own)⟩
 .have h:=ar.ah q2 Z;exact⟨by rw[aE u.symm];exact h.obj,h.own,h.lt⟩
 .have h:=am.ah q2 Z;exact⟨by rw[aE b.symm];exact h.obj,h.own,h.lt⟩
 .have h:=hv.ah (((Fr.refl (· =c) t y L).bw (x:=S) (o:=(.row 383 4 0 true [.au,.fR,.au,.num 0] (.cf (bI [.sl a.r 0 N (.known N),.map a.mp,v',Q a.fr]))))) (λ_=>(aS.ah q2 Z).own)) Z;grind
 .show cy _ _ _ i=Q (vV gen p (gen p+1) i);by_cases e:i=p
  .subst e;rw[cd,Wx]
  .rw [a04 e,a7e e];exact H.g i hi
 .rw [jH H.wf.keys,H.mo];by_cases h:(p:Int)=x
  .subst h;rw[ao rfl,aj (λh=>by have h:=h.2;rw[show ((p:Int)).toNat=p from rfl,fu] at h;cases h)]
  .rw [aj h];by_cases h0:0<=x
   .have:x.toNat≠p:=by omega
    rw[dn this]
   grind
 .grind
 .rcases fJ.1 hx with h|h
  .have:=H.clt x h;exact⟨this.1,by unfold fB;grind⟩
  .simp at h;subst h;exact⟨A,fu ..⟩
 .by_cases e:x=p
  .grind
  .rw [dn e] at s;exact List.mem_append_left _ (H.all x hx s)
 .unfold fB;split
  .rfl
  .exact H.new x hx
 grind
end
def xH(own)(c:Nat)(f)(m N:Nat)(o:N<=4096)(R:Rt):
  Cl R.Y 116 [Q N] f m (λv y L=>∃S t a,v= .ptr S 0/\fF t c y L S N (λ_=>0) (λ_=>false) 0 a/\Fr (λ_=>False) own f m t y L):=by
 intro k d E;have c1:¬((N:Int)<0):=Z;have c2:¬((1048576:Int)<N):=Z;have c3:N<=4294967296:=Z;have c4:8*N<=281474976710656:=Z;have M:N<=9223372036854775807:=Z;refine cUx func116 ?_;refine zS ?_;refine E _ _ _ ⟨pl m 2,cm own m [c,c,c],⟨m,pl m 1,zf [.num 0],[],0,.au,[],0⟩,rfl,⟨gh E6 rfl (bP _),ez E6 rfl (bP _),gh T9 rfl (bP _),Wf.nil _,.inl ⟨rfl,rfl,rfl⟩,o,λi _=>(nU _ i).trans G,λx=>?_,AI,λx b=>G,λx b=>G,kU _,λ_ _=>rfl,rfl⟩,?_⟩
 .rw [aj W];rfl
 .exact (((Fr.refl _ own f m).new).new).new.cm (bP _)
def a7P(a b:Int)(S: -4611686018427387904<=a/\a<=4611686018427387903)(s: -4611686018427387904<=b/\b<=4611686018427387903)(R:Rt)(f)(m:Nat)(k):R.Y.call 368 [Q a,Q b] (.fn f m) k=k (.cI [Q (a+b),.bool true]) (.fn f m):=by
 have N:IntKind.i64.wrap (a+b)=a+b:=cB Z;by_cases A:0<=a<;>by_cases c:0<=b
 .have c3:¬(a+b<0):=by omega
  have c1:¬(a<0):=Z;refine cUx func368 ?_;exact zC
 .have c1:¬(a<0):=by omega
  refine cUx func368 ?_;exact zC
 .have c1:a<0:=by omega
  have c2:¬(b<0):=Z;refine cUx func368 ?_;exact zC
 .have c1:a<0:=by omega
  have c2:b<0:=Z;have c3:¬(0<=a+b):=Z;refine cUx func368 ?_;exact zC
structure Acc where
 c:Int
 h:Int
 r:Int
noncomputable section
def Acc.cs(a:Acc):ay:=[Q a.c,Q a.h,Q a.r]
def Acc.v(a:Acc):V:=.agg a.cs
def qk(a:Acc):Prop:=1<=a.c/\a.c<=1048576/\0<=a.h/\0<=a.r/\a.h+a.r<=a.c
instance (a:Acc):Decidable (qk a):=by unfold qk;infer_instance
def AcS(a:Acc):Prop:=-4194304<=a.h/\a.h<=4194304/\ -4194304<=a.r/\a.r<=4194304
def qk.s{a:Acc}(h:qk a):AcS a:=by unfold qk at h;unfold AcS;omega
def qh(a:Acc)(M:AcS a)(R:Rt)(f)(m:Nat)(k):R.Y.Y.call 415 [a.v] (.fn f m) k=k (.bool (decide (qk a))) (.fn (bw f m (.row 147 3 0 true [.num 0,.num 0,.num 0] (.cf (bI [Q a.c,Q a.h,Q a.r])))) (pl m 1)):=by
 obtain⟨c,h,r⟩:=a;unfold AcS at M;have g:=a7P h r W W;unfold Acc.v Acc.cs;have e:decide (qk ⟨c,h,r⟩)=pb (1<=c/\c<=1048576/\0<=h/\0<=r/\h+r<=c):=by rw[od];rfl
 rw[e];by_cases A:1<=c
 .by_cases N:c<=1048576
  .by_cases b:0<=h
   .by_cases u:0<=r
    .by_cases d:h+r<=c
     .refine cUx func415 ?_;exact zC
     .refine cUx func415 ?_;exact zC
    .refine cUx func415 ?_;exact zC
   .refine cUx func415 ?_;exact zC
  .refine cUx func415 ?_;exact zC
 .refine cUx func415 ?_;exact zC
inductive jj|Nu|uj|IQ|LV
def jj.ap:jj->Acc->Int->Acc
 |.Nu,a,n=>⟨a.c,a.h,a.r+n⟩
 |.uj,a,n=>⟨a.c,a.h+n,a.r-n⟩
 |.IQ,a,n=>⟨a.c,a.h,a.r-n⟩
 |.LV,a,n=>⟨a.c,a.h-n,a.r⟩
def jj.w:jj->Int
 |.Nu=>7
 |_=>20
def jj.ok(q:jj)(a:Acc)(n:Int):Prop:=1<=n/\n<=1048576/\qk (q.ap a n)
instance (q:jj) (a:Acc) (n:Int):Decidable (q.ok a n):=by unfold jj.ok;infer_instance
def jj.e(q:jj)(a:Acc)(n:Int):Int:=if n<1 then 2 else if q.ok a n then 0 else q.w
def yz:Acc:=⟨0,0,0⟩
def DH:V.num 0=Q 0:=G
def vC:yz.v= .agg [.num 0,.num 0,.num 0]:=G
def tO{R:Rt}(q:jj)(i:Nat)(j:eW K i=iM i)(a:Acc)(d:qk a)(n:Int)(f)(m:Nat)
  (hd:1<=n->n<=1048576->∀F M,Cl R.Y.Y i [.agg [Q a.c,Q a.h,Q a.r],Q n] F M (λv y L=>v= .agg [Q (q.ap a n).c,Q (q.ap a n).h,Q (q.ap a n).r]/\B F M y L)):
  Cl R.Y.Y.Y 465 [.agg [Q a.c,Q a.h,Q a.r],Q n,.agg [.fn i [] [],Q q.w]] f m (λv y L=>v= .cI [(if q.e a n=0 then q.ap a n else yz).v,Q (q.e a n)]/\B f m y L):=by
 intro k T E;have t:=λR f m k=>qh a d.s R f m k;rw[dI d] at t;unfold Acc.v Acc.cs at t;by_cases A:n<1
 .refine cUx func465 ?_;refine zS ?_;have e:q.e a n=2:=ao A;refine E _ _ _ ⟨?_,?_⟩
  .rw [e,aj I,vC,DH]
  .exact (((((B.refl f m).new).new).new).new).bw W
 by_cases N:1048576<n
 .have e:q.e a n=q.w:=by unfold jj.e;rw[aj A,aj (λh=>by have:=h.2.1;omega)]
  refine cUx func465 ?_;refine zS ?_;refine E _ _ _ ⟨?_,?_⟩
  .rw [e,aj A8,vC,DH]
  .exact (((((B.refl f m).new).new).new).new).bw W
 have C:1<=n:=Z;have b:n<=1048576:=Z;refine cUx func465 ?_;simp only[go_sem,t,A,N,j, ↓ag i];apply(hd C b _ _).bu;rintro v f1 l ⟨rfl,P⟩;have x:AcS (q.ap a n):=by have:=d;unfold qk at this;unfold AcS;cases q<;>simp only[jj.ap]<;>omega
 have g:=λR f m k=>qh (q.ap a n) x R f m k;unfold Acc.v Acc.cs at g;by_cases u:qk (q.ap a n)
 .have S:=P.ah;have z:=P.le;rw[dI u] at g;have H:pl m 2≠l:=W;have n_1:pl m 2≠pl l 1:=W;refine zS ?_;have e:q.e a n=0:=by unfold jj.e;rw[aj A,ao G]
  refine E _ _ _ ⟨?_,?_⟩
  .rw [e,ao rfl];rfl
  .exact (((((((((((B.refl f m).new).new).new).new)).trans P).new).bw W).new).bw W)
 .have S:=P.ah;have z:=P.le;rw[dB u] at g;have H:pl m 1≠l:=W;have n_1:pl m 1≠pl l 1:=W;have o:pl m 2≠l:=W;have p:pl m 2≠pl l 1:=W;refine zS ?_;have e:q.e a n=q.w:=by unfold jj.e;rw[aj A,aj (λh=>u h.2.2)]
  refine E _ _ _ ⟨?_,?_⟩
  .rw [e,aj A8,vC,DH]
  .exact (((((((((((B.refl f m).new).new).new).new)).trans P).new).bw W).new).bw W)
end
section
variable (a:Acc) (hr:qk a) (n:Int)
include hr
def Ng(R:Rt)(f)(m:Nat):Cl R.Y.Y.Y.Y 455 [.agg [Q a.c,Q a.h,Q a.r],Q n] f m (λv y L=>v= .cI [(if jj.Nu.e a n=0 then jj.Nu.ap a n else yz).v,Q (jj.Nu.e a n)]/\B f m y L):=by
 intro k S E;refine cUx func455 ?_;simp only[go_sem, ↓ag 465];refine(tO .Nu 485 G a hr n _ _ ?_).bu ?_
 .intro A N F M k S E;have b:IntKind.i64.wrap (a.r+n)=a.r+n:=cB Z9;refine cUx func485 ?_;refine zS ?_;exact E _ _ _ ⟨rfl,(B.w (m2:=M) Qd E1)⟩
 .rintro v d l ⟨rfl,P⟩;have g:=P.le;have H:pl m 1≠l:=W;unfold Acc.v Acc.cs;simp only[go_sem,P.ah];exact E _ _ _ ⟨rfl,((B.refl f m).new.new.trans P).bw W⟩
def yy(R:Rt)(f)(m:Nat):Cl R.Y.Y.Y.Y 431 [.agg [Q a.c,Q a.h,Q a.r],Q n] f m (λv y L=>v= .cI [(if jj.uj.e a n=0 then jj.uj.ap a n else yz).v,Q (jj.uj.e a n)]/\B f m y L):=by
 intro k S E;refine cUx func431 ?_;simp only[go_sem, ↓ag 465];refine(tO .uj 466 G a hr n _ _ ?_).bu ?_
 .intro A N F M k S E;have b:IntKind.i64.wrap (a.r-n)=a.r-n:=cB Z9;have d:IntKind.i64.wrap (a.h+n)=a.h+n:=cB Z9;refine cUx func466 ?_;refine zS ?_;exact E _ _ _ ⟨rfl,(B.w (m2:=M) Qd E1)⟩
 .rintro v g l ⟨rfl,P⟩;have i:=P.le;have H:pl m 1≠l:=W;unfold Acc.v Acc.cs;simp only[go_sem,P.ah];exact E _ _ _ ⟨rfl,((B.refl f m).new.new.trans P).bw W⟩
def SK(R:Rt)(f)(m:Nat):Cl R.Y.Y.Y.Y 456 [.agg [Q a.c,Q a.h,Q a.r],Q n] f m (λv y L=>v= .cI [(if jj.IQ.e a n=0 then jj.IQ.ap a n else yz).v,Q (jj.IQ.e a n)]/\B f m y L):=by
 intro k S E;refine cUx func456 ?_;simp only[go_sem, ↓ag 465];refine(tO .IQ 486 G a hr n _ _ ?_).bu ?_
 .intro A N F M k S E;have b:IntKind.i64.wrap (a.r-n)=a.r-n:=cB Z9;refine cUx func486 ?_;refine zS ?_;exact E _ _ _ ⟨rfl,(B.w (m2:=M) Qd E1)⟩
 .rintro v d l ⟨rfl,P⟩;have g:=P.le;have H:pl m 1≠l:=W;unfold Acc.v Acc.cs;simp only[go_sem,P.ah];exact E _ _ _ ⟨rfl,((B.refl f m).new.new.trans P).bw W⟩
def a5O(R:Rt)(f)(m:Nat):Cl R.Y.Y.Y.Y 457 [.agg [Q a.c,Q a.h,Q a.r],Q n] f m (λv y L=>v= .cI [(if jj.LV.e a n=0 then jj.LV.ap a n else yz).v,Q (jj.LV.e a n)]/\B f m y L):=by
 intro k S E;refine cUx func457 ?_;simp only[go_sem, ↓ag 465];refine(tO .LV 487 G a hr n _ _ ?_).bu ?_
 .intro A N F M k S E;have b:IntKind.i64.wrap (a.h-n)=a.h-n:=cB Z9;refine cUx func487 ?_;refine zS ?_;exact E _ _ _ ⟨rfl,(B.w (m2:=M) Qd E1)⟩
 .rintro v d l ⟨rfl,P⟩;have g:=P.le;have H:pl m 1≠l:=W;unfold Acc.v Acc.cs;simp only[go_sem,P.ah];exact E _ _ _ ⟨rfl,((B.refl f m).new.new.trans P).bw W⟩
def a5N(R:Rt)(f)(m:Nat)(k):R.Y.Y.Y.call 518 [.agg [Q a.c,Q a.h,Q a.r]] (.fn f m) k=k (Q (a.c-a.h)) (.fn (bw (bw f m (.row 147 3 0 true [.num 0,.num 0,.num 0] (.cf (bI [Q a.c,Q a.h,Q a.r])))) (pl m 1) (.row 147 3 0 true [.num 0,.num 0,.num 0] (.cf (bI [Q a.c,Q a.h,Q a.r])))) (pl m 2)):=by have t:=λR f m k=>qh a hr.s R f m k;rw[dI hr] at t;unfold Acc.v Acc.cs at t;have N:IntKind.i64.wrap (a.c-a.h)=a.c-a.h:=cB Z9;refine cUx func518 ?_;exact zC
end
def a9C(c:Int)(R:Rt)(f)(m:Nat):Cl R.Y.Y.Y 353 [Q c] f m (λv y L=>v= .cI [(if 1<=c/\c<=1048576 then(⟨c,0,0⟩:Acc) else yz).v,Q (if 1<=c/\c<=1048576 then 0 else 2)]/\B f m y L):=by
 intro k S E;have t:=λR f m k=>qh ⟨c,0,0⟩ ⟨(I:(-4194304:Int)<=0),(I:(0:Int)<=4194304),(I:(-4194304:Int)<=0),(I:(0:Int)<=4194304)⟩ R f m k;unfold Acc.v Acc.cs at t;have e:qk ⟨c,0,0⟩↔1<=c/\c<=1048576:=⟨λh=>⟨h.1,h.2.1⟩,λh=>⟨h.1,h.2,(I:(0:Int)<=0),(I:(0:Int)<=0),by show(0:Int)+0<=c;omega⟩⟩;by_cases h:1<=c/\c<=1048576
 .rw [dI W] at t;rw[ao h,ao h] at E;refine cUx func353 ?_;simp only[go_sem,DH,t];unfold Acc.v Acc.cs at E;exact E _ _ _ ⟨rfl,(B.w (m2:=m) Qe E1)⟩
 .rw [dB W] at t;rw[aj h,aj h,vC] at E;refine cUx func353 ?_;simp only[go_sem,DH,t];rw[DH] at E;exact E _ _ _ ⟨rfl,(B.w (m2:=m) Qe E1)⟩
structure xg where
 S:Nat
 mp:Nat
 l:List (Int×V×Nat)
 ck:Nat
 sa:rG
@[grind cases] structure jC(own:aG)(f:av)(m A:Nat)(gen:aG)(op:bs)(cV:Nat)(acc:Nat->Acc)(a:xg):Prop where
 aA:At own 9 f m A (.row 293 2 0 true [.bg,.fR] (.cf (bI [.ptr a.S 0,.map a.mp])))
 am:At own 32 f m a.mp (.map (enc a.l) a.ck)
 wf:Wf a.l a.ck
 mo:∀p:Nat,op p=true->cC a.l p=some (acc p).v
 ok:∀p,op p=true->qk (acc p)
 s:fF own 33 f m a.S 64 gen op cV a.sa
 z:∀x,m<=x->own x=0
def kq(g:Nat->Acc)(i:Nat)(v:Acc):Nat->Acc:=λj=>if j=i then v else g j
def dQ(g:Nat->Acc)(i:Nat)(v:Acc):kq g i v i=v:=ao rfl
def gI{g:Nat->Acc}{v:Acc}(h:j≠i):kq g i v j=g j:=aj h
@[grind] def PA(x:Nat):Prop:=x=32\/x=33\/x=34
section
variable {own:aG} {f:av} {m A cV:Nat} {gen:aG} {op:bs} {acc:Nat->Acc} {a:xg}
def jC.ah{P:dF}{t:aG}{L:Nat}(h:jC own f m A gen op cV acc a)(q:Fr P own f m t y L)(g:¬P 9/\¬P 32/\¬P 33/\¬P 34):jC t y L A gen op cV acc a:=
 ⟨h.aA.ah q W,h.am.ah q W,h.wf,h.mo,h.ok,h.s.ah q W W,q.z h.z⟩
@[grind →] theorem jC.gr{L:Nat}(h:jC own f m A gen op cV acc a)(q:B f m y L):jC own y L A gen op cV acc a:=h.ah (q.fr own (λ_=>False)) G
def a5L(A x y:Nat)(F)(N:F A=(.row 293 2 0 true [.bg,.fR] (.cf (bI [.ptr x 0,.map y]))))(R:Rt)(L:Nat)(k):R.Y.call 124 [.ptr A 0] (.fn F L) k=k (.bool true) (.fn F L):=by refine cUx func124 ?_;exact zC
def Ix(H:jC own f m A gen op cV acc a)(R:Rt)(L:Nat)(k):R.Y.call 124 [.ptr A 0] (.fn f L) k=k (.bool true) (.fn f L):=by have N:=H.aA.obj;refine cUx func124 ?_;exact zC
def Df(H:jC own f m A gen op cV acc a)(p g:Int)(R:Rt):
  Cl R.Y.Y 280 [.ptr A 0,Q p,Q g] f m (λv y L=>v=(if 0<=p/\op p.toNat=true/\(gen p.toNat:Int)=g then .cI [(acc p.toNat).v,Q 0] else .cI [yz.v,Q 4])/\B f m y L):=by
 intro k S E;have n:=λo=>H.gr ((B.refl f m).new (o:=o));have N:=H.aA.obj;have d:=H.am.obj;have F:=λo=>Ix (n o);have t:=λo=>oQ (n o).s p g;have u:A≠m:=by have:=H.aA.lt;omega
 have b:a.mp≠m:=R0;by_cases h:0<=p/\op p.toNat=true/\(gen p.toNat:Int)=g
 .rw [dI h] at t;rw[ao h] at E;obtain⟨q,rfl⟩:∃q:Nat,p=q:=⟨p.toNat,Z⟩;have c:=H.mo q h.2.1;unfold Acc.v Acc.cs at c;refine cUx func280 ?_;refine zS ?_;exact E _ _ _ ⟨rfl,(B.w (m2:=m) Qe E1)⟩
 .rw [dB h] at t;rw[aj h,vC,DH] at E;refine cUx func280 ?_;refine zS ?_;rw[DH];exact E _ _ _ ⟨rfl,(B.w (m2:=m) Qe E1)⟩
def a0o{R:Rt}(H:jC own f m A gen op cV acc a)(c:Int)(h64:cV<64):
  Cl R.Y.Y.Y.Y 278 [.ptr A 0,Q c] f m (λv y L=>if 1<=c/\c<=1048576 then ∃p,v= .cI [Q (p:Nat),Q (gen p),Q 0]/\op p=false/\p<64/\(∃a',jC own y L A gen (fB op p true) (cV+1) (kq acc p ⟨c,0,0⟩) a')/\Fr PA own f m own y L else v= .cI [Q 0,Q 0,Q 2]/\B f m y L):=by
 intro k T E;have hi:=Ix H;refine cUx func278 ?_;simp only[go_sem,hi, ↓ag 353];apply(a9C c _ f m).bu;rintro v r t ⟨rfl,P⟩;by_cases F:1<=c/\c<=1048576
 .simp only[ao F] at E ⊢;have hA:=(H.gr P).aA.obj;have u:A≠t:=K8;unfold Acc.v Acc.cs;simp only[go_sem,hA,u, ↓ag 289];refine(uL (H.gr (B.w (m2:=t) Qn J0)).s h64).bu ?_;rintro v d m2 ⟨p,rfl,rfl,g,ho,⟨n,M⟩,q3⟩;have j:=(H.gr (B.w (m2:=t) Qn J0)).aA.ah q3 I;have C:=(H.gr (B.w (m2:=t) Qn J0)).am.ah q3 I;have o:=j.obj;have b:=C.obj;have n1:=q3.ah t W (by rw[H.z t P.le];decide);have e3:a.mp≠t:=Xr;refine zS ?_;have z2:=λx (hx:m<=x)=>H.z x hx;have i:Fr PA own f m own d (pl t 1):=((B.fr (B.w (m2:=t) Qn J0) own PA)).trans q3 (λ_ h=>h) (λx h=>.inr (.inl h));refine E _ _ _ ⟨p,rfl,ho,g,⟨⟨a.S,a.mp,eJ a.l p (.agg [Q c,Q 0,Q 0]) a.ck,im a.l p a.ck,n⟩,⟨⟨by rw[aE W];trivial,j.own,j.lt⟩,⟨aK ..,C.own,C.lt⟩,H.wf.set _ _,λq N=>?_,λq N=>?_,?_,i.z H.z⟩⟩,i.bw (λ_=>.inl H.am.own)⟩
  .rw [dR];by_cases e:q=p
   .subst e;rw[ao rfl,dQ];rfl
   .rw [aj Z,gI e];rw[dn e] at N;exact H.mo q N
  .by_cases e:q=p
   .subst e;rw[dQ];exact⟨F.1,F.2,(I:(0:Int)<=0),(I:(0:Int)<=0),by show(0:Int)+0<=c;omega⟩
   .rw [gI e];rw[dn e] at N;exact H.ok q N
  .exact M.ah ((Fr.refl (· =32) own d (pl t 1)).bw (λ_=>C.own)) I I
 .simp only[aj F] at E ⊢;rw[vC,DH];refine zS ?_;exact E _ _ _ ⟨rfl,(B.w (m2:=t) Qn J0)⟩
end
end Go.Ev.Sy
