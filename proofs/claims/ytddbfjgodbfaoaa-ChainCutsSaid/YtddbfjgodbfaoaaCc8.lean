/-
 ChainCuts holds for every input: behind any crash there are the records ahead of the cut, and what was appended behind it; no condition.
-/
import Derived.Test.YtddbfjgodbfaoaaCc7
set_option linter.unusedVariables false
set_option linter.unusedSimpArgs false
namespace Go.Mac
open Go Go.Eng Go.Proofs
open Go.IntKind (i64)
open Go.Proofs.Try (prog)
set_option maxHeartbeats 0
set_option maxRecDepth 100000
abbrev crE(ks:List Int)(cut last i:Int)(N:Nat):LEnv:=[.ptr 0 0,.isl 1 (ints ks),.int i64 cut,.any,.any,.any,.int i64 last,.any,.any,.any,.any,.any,.any,.any,.any,.any,.int i64 N,.int i64 i,.any,.any,.any,.any,.any,.any,.any,.any,.any,.any,.any,.any,.any,.any,.any,.any,.any,.any,.any,.any,.any,.any,.any,.any,.any,.any,.any,.any,.any,.any,.any,.any,.any,.any,.any,.any,.any,.any,.any,.any,.any,.any,.any,.any,.any,.any,.any,.any,.any,.any,.any,.any,.any,.any,.any,.any,.any,.any,.any,.any,.any,.any,.any,.any,.any,.any,.any,.any,.any,.any,.any,.any,.any,.any,.any,.any,.any,.any,.any,.any]
abbrev crX(ks:List Int)(cut last i:Int)(N:Nat):LEnv:=[.ptr 0 0,.isl 1 (ints ks),.int i64 cut,.any,.any,.any,.int i64 last,.any,.any,.any,.any,.any,.any,.any,.any,.any,.any,.any,.any,.any,.any,.any,.any,.any,.any,.any,.any,.any,.any,.any,.any,.any,.any,.any,.any,.any,.any,.any,.any,.any,.any,.any,.any,.any,.any,.any,.any,.any,.any,.any,.any,.any,.any,.any,.any,.any,.any,.any,.any,.any,.any,.any,.any,.any,.any,.any,.any,.any,.any,.any,.any,.any,.any,.any,.any,.any,.any,.any,.any,.any,.any,.any,.any,.any,.any,.any,.any,.any,.any,.any,.any,.any,.any,.any,.any,.any,.any,.any]
abbrev crS(rm:Int)(m:ML)(p:PL):St:=⟨2,[(0,LObj.box 77 [.int i64 rm,.omap i64 (Zn m) (Xl m),.sl 2 1 0 p.length none]),(1,LObj.row 88 2 (Zg p))]⟩
theorem cr_hit(n fu:Nat)(rm:Int)(m:ML)(p:PL)(ks:List Int)(cut last:Int)(k N:Nat)(hN:N<=100000)(hk:k<N)(h1:k<ks.length)(h2:¬ atI ks k=0)(r:LX × LEnv × St)(hr:Z2 prog C0 (n+60) 15 0 1 fu (crE ks cut k ((k:Int)+1) N) (crS rm m p)=some r):
  Z2 prog C0 (n+60) 15 0 1 (fu+1) (crE ks cut last k N) (crS rm m p)=some r:=by
 have f1:decide ((↑k:Int)<(↑N:Int))=true:=by simp;omega
 have f2:decide ((↑k:Int)<((ints ks).length:Int))=true:=by simp;omega
 have f3:(ints ks)[Int.toNat (↑k:Int)]? = some (LV.int i64 (atI ks k)):=by simp (disch:=omega)
 have f4:0<=(↑k:Int)/\(↑k:Int)<((ints ks).length:Int):=by simp;omega
 have f5:LV.bool (if decide ((↑k:Int)<((ints ks).length:Int))=true then !decide (atI ks k=0) else false)=LV.bool true:=by simp;omega
 have f6:LV.int i64 (IntKind.wrap i64 ((↑k:Int)+1))=LV.int i64 ((↑k:Int)+1):=by simp (disch:=omega)
 have f7:=hr;exact dlp (fun h=>ai (congrArg LV.bool f1)<|ai (congrArg some f2)<|ai (congrArg some f2)<|ai (congrArg some f2)<|ai (f4)<|ai (f3)<|ai (congrArg some f2)<|ai (congrArg some f2)<|ai (f5)<|ai (f6)<|ai (Eq.refl (Zc f7))<|ai (f7)<|h) (.i (.s (.a) (.s (.b true (.a)) (.s (.k (.s (.a) (.s (.r [.a,.a,.a,.a,.a,.g true (.a),.g true (.a),.g true (.e (rOf f3)),.g true (.a),.g true (.a),.v (vOf f5) (.a)]) (.a)))) (.r [.v (vOf f6) (.a)])))) (.h [] (eOf f7) (Y2 f7) (rOf f7))) (by kernel_rfl)
theorem cr_miss(n fu:Nat)(rm:Int)(m:ML)(p:PL)(ks:List Int)(cut last:Int)(k N:Nat)(hN:N<=100000)(hk:k<N)(h1:k<ks.length)(h2:atI ks k=0)(r:LX × LEnv × St)(hr:Z2 prog C0 (n+60) 15 0 1 fu (crE ks cut last ((k:Int)+1) N) (crS rm m p)=some r):
  Z2 prog C0 (n+60) 15 0 1 (fu+1) (crE ks cut last k N) (crS rm m p)=some r:=by
 have f1:decide ((↑k:Int)<(↑N:Int))=true:=by simp;omega
 have f2:decide ((↑k:Int)<((ints ks).length:Int))=true:=by simp;omega
 have f3:(ints ks)[Int.toNat (↑k:Int)]? = some (LV.int i64 0):=by (simp (disch:=first | omega | (simp;omega));omega)
 have f4:0<=(↑k:Int)/\(↑k:Int)<((ints ks).length:Int):=by simp;omega
 have f5:LV.bool (if decide ((↑k:Int)<((ints ks).length:Int))=true then false else false)=LV.bool false:=by simp
 have f6:LV.int i64 (IntKind.wrap i64 ((↑k:Int)+1))=LV.int i64 ((↑k:Int)+1):=by simp (disch:=omega)
 have f7:=hr;exact dlp (fun h=>ai (congrArg LV.bool f1)<|ai (congrArg some f2)<|ai (congrArg some f2)<|ai (congrArg some f2)<|ai (f4)<|ai (f3)<|ai (congrArg some f2)<|ai (congrArg some f2)<|ai (f5)<|ai (f6)<|ai (Eq.refl (Zc f7))<|ai (f7)<|h) (.i (.s (.a) (.s (.b true (.a)) (.s (.k (.s (.a) (.s (.r [.a,.a,.a,.a,.a,.g true (.a),.g true (.a),.g true (.e (rOf f3)),.g true (.a),.g true (.a),.v (vOf f5) (.a)]) (.a)))) (.r [.v (vOf f6) (.a)])))) (.h [] (eOf f7) (Y2 f7) (rOf f7))) (by kernel_rfl)
theorem cr_over(n fu:Nat)(rm:Int)(m:ML)(p:PL)(ks:List Int)(cut last:Int)(k N:Nat)(hN:N<=100000)(hk:k<N)(h1:ks.length<=k)(r:LX × LEnv × St)(hr:Z2 prog C0 (n+60) 15 0 1 fu (crE ks cut last ((k:Int)+1) N) (crS rm m p)=some r):
  Z2 prog C0 (n+60) 15 0 1 (fu+1) (crE ks cut last k N) (crS rm m p)=some r:=by
 have f1:decide ((↑k:Int)<(↑N:Int))=true:=by simp;omega
 have f2:decide ((↑k:Int)<((ints ks).length:Int))=false:=by simp;omega
 have f3:Wa (decide ((↑k:Int)<((ints ks).length:Int))) LV.any (LV.bool false)=some (LV.bool false):=by simp;omega
 have f4:LV.int i64 (IntKind.wrap i64 ((↑k:Int)+1))=LV.int i64 ((↑k:Int)+1):=by simp (disch:=omega)
 have f5:=hr;exact dlp (fun h=>ai (congrArg LV.bool f1)<|ai (congrArg some f2)<|ai (congrArg some f2)<|ai (congrArg some f2)<|ai (congrArg some f2)<|ai (congrArg some f2)<|ai (Yp (st:=(St.mk 2 [(0,LObj.box 77 [.int i64 rm,.omap i64 (Zn m) (Xl m),.sl 2 1 0 (List.length p) none]),(1,LObj.row 88 2 (Zg p))])) f3)<|ai (f4)<|ai (Eq.refl (Zc f5))<|ai (f5)<|h) (.i (.s (.a) (.s (.b true (.a)) (.s (.k (.s (.a) (.s (.r [.a,.a,.a,.a,.a,.g false (.a),.g false (.a),.g false (.a),.g false (.a),.g false (.a),.t (rOf (Yp (st:=(St.mk 2 [(0,LObj.box 77 [.int i64 rm,.omap i64 (Zn m) (Xl m),.sl 2 1 0 (List.length p) none]),(1,LObj.row 88 2 (Zg p))])) f3))]) (.a)))) (.r [.v (vOf f4) (.a)])))) (.h [] (eOf f5) (Y2 f5) (rOf f5))) (by kernel_rfl)
theorem cr_end(n fu:Nat)(rm:Int)(m:ML)(p:PL)(ks:List Int)(cut last:Int)(N:Nat)(hN:N<=100000):
  Z2 prog C0 (n+60) 15 0 1 (fu+1) (crE ks cut last N N) (crS rm m p)=some (.exit 0,crX ks cut last N N,crS rm m p):=by
 have f1:decide ((↑N:Int)<(↑N:Int))=false:=by simp
 exact dlp (fun h=>ai (congrArg LV.bool f1)<|h) (.i (.s (.a) (.s (.b false (.a)) .a)) (.a)) (by kernel_rfl)
abbrev crF(ks:List Int)(cut last i:Int)(N:Nat):LEnv:=[.ptr 0 0,.isl 1 (ints ks),.int i64 cut,.any,.any,.any,.int i64 last,.any,.map 3,.any,.any,.any,.any,.any,.any,.any,.any,.any,.any,.any,.any,.any,.any,.any,.any,.any,.any,.any,.any,.any,.any,.any,.any,.any,.any,.any,.any,.any,.any,.any,.any,.sl 2 2 0 N none,.int i64 N,.int i64 i,.any,.any,.any,.any,.any,.any,.any,.any,.any,.any,.any,.any,.any,.any,.any,.any,.any,.any,.any,.any,.any,.any,.any,.any,.any,.any,.any,.any,.any,.any,.any,.any,.any,.any,.any,.any,.any,.any,.any,.any,.any,.any,.any,.any,.any,.any,.any,.any,.any,.any,.any,.any,.any,.any]
abbrev crG(ks:List Int)(cut last i:Int)(N:Nat):LEnv:=[.ptr 0 0,.any,.any,.any,.any,.any,.any,.any,.map 3,.any,.any,.any,.any,.any,.any,.any,.any,.any,.any,.any,.any,.any,.any,.any,.any,.any,.any,.any,.any,.any,.any,.any,.any,.any,.any,.any,.any,.any,.any,.any,.any,.any,.any,.any,.any,.any,.any,.any,.any,.any,.any,.any,.any,.any,.any,.any,.any,.any,.any,.any,.any,.any,.any,.any,.any,.any,.any,.any,.any,.any,.any,.any,.any,.any,.any,.any,.any,.any,.any,.any,.any,.any,.any,.any,.any,.any,.any,.any,.any,.any,.any,.any,.any,.any,.any,.any,.any,.any]
theorem zq8_0(a0:Nat):LV.pel 2 2 (0+Int.toNat (↑a0:Int)) 0=LV.pel 2 2 a0 0:=by simp
theorem cs_pastS(n fu:Nat)(rm:Int)(m:ML)(p:PL)(hp:p.length<=100000)(w:List (Int × LV))(ks:List Int)(cut last:Int)(k:Nat)(hk:k<p.length)(a:Int)(b:List Int)(hx:(Zg p)[k]? = some (.agg [.int .i64 a,.isl 1 (bys b)]))(h1:last<k)(r:LX × LEnv × St)(hr:Z2 prog C0 (n+60) 15 1 1 fu (crF ks cut last ((k:Int)+1) p.length) (aS rm m p w)=some r):
  Z2 prog C0 (n+60) 15 1 1 (fu+1) (crF ks cut last k p.length) (aS rm m p w)=some r:=by
 have f1:decide ((↑k:Int)<(p.length:Int))=true:=by simp;omega
 have f2:0<=(↑k:Int)/\(↑k:Int)<(p.length:Int):=by omega
 have f3:=zq8_0 k;have f4:(Zg p)[k]? = some (LV.agg [.int i64 a,.isl 1 (bys b)]):=hx;have f5:decide (last<(↑k:Int))=true:=by simp;omega
 have f6:Wa (decide (last<(↑k:Int))) (LV.bool true) LV.any=some (LV.bool true):=by simp;omega
 have f7:LV.int i64 (IntKind.wrap i64 ((↑k:Int)+1))=LV.int i64 ((↑k:Int)+1):=by simp (disch:=omega)
 have f8:=hr;exact dlp (fun h=>ai (congrArg LV.bool f1)<|ai (f2)<|ai (f3)<|ai (f4)<|ai (congrArg some f5)<|ai (congrArg some f5)<|ai (congrArg some f5)<|ai (congrArg some f5)<|ai (congrArg some f5)<|ai (Yp (st:=(St.mk 5 [(4,LObj.box 88 [.int i64 a,.isl 1 (bys b)]),(0,LObj.box 77 [.int i64 rm,.map 1,.sl 2 2 0 (List.length p) none]),(1,LObj.map i64 (Zm m)),(2,LObj.row 88 2 (Zg p)),(3,LObj.map i64 w)])) f6)<|ai (f7)<|ai (Eq.refl (Zc f8))<|ai (f8)<|h) (.i (.s (.a) (.s (.b true (.a)) (.s (.k (.s (.r [.a,.v (vOf f3) (.q),.e (rOf f4)]) (.s (.s (.r [.a,.a,.a,.a,.g true (.a),.g true (.a),.g true (.a),.g true (.a),.g true (.a),.t (rOf (Yp (st:=(St.mk 5 [(4,LObj.box 88 [.int i64 a,.isl 1 (bys b)]),(0,LObj.box 77 [.int i64 rm,.map 1,.sl 2 2 0 (List.length p) none]),(1,LObj.map i64 (Zm m)),(2,LObj.row 88 2 (Zg p)),(3,LObj.map i64 w)])) f6))]) (.a)) .a))) (.r [.v (vOf f7) (.a)])))) (.h [] (eOf f8) (Y2 f8) (rOf f8))) (by kernel_rfl)
theorem cs_pastN(n fu:Nat)(rm:Int)(m:ML)(p:PL)(hp:p.length<=100000)(w:List (Int × LV))(ks:List Int)(cut last:Int)(k:Nat)(hk:k<p.length)(a:Int)(hx:(Zg p)[k]? = some (.agg [.int .i64 a,.nils]))(h1:last<k)(r:LX × LEnv × St)(hr:Z2 prog C0 (n+60) 15 1 1 fu (crF ks cut last ((k:Int)+1) p.length) (aS rm m p w)=some r):
  Z2 prog C0 (n+60) 15 1 1 (fu+1) (crF ks cut last k p.length) (aS rm m p w)=some r:=by
 have f1:decide ((↑k:Int)<(p.length:Int))=true:=by simp;omega
 have f2:0<=(↑k:Int)/\(↑k:Int)<(p.length:Int):=by omega
 have f3:=zq8_0 k;have f4:(Zg p)[k]? = some (LV.agg [.int i64 a,.nils]):=hx;have f5:decide (last<(↑k:Int))=true:=by simp;omega
 have f6:Wa (decide (last<(↑k:Int))) (LV.bool true) LV.any=some (LV.bool true):=by simp;omega
 have f7:LV.int i64 (IntKind.wrap i64 ((↑k:Int)+1))=LV.int i64 ((↑k:Int)+1):=by simp (disch:=omega)
 have f8:=hr;exact dlp (fun h=>ai (congrArg LV.bool f1)<|ai (f2)<|ai (f3)<|ai (f4)<|ai (congrArg some f5)<|ai (congrArg some f5)<|ai (congrArg some f5)<|ai (congrArg some f5)<|ai (congrArg some f5)<|ai (Yp (st:=(St.mk 5 [(4,LObj.box 88 [.int i64 a,.nils]),(0,LObj.box 77 [.int i64 rm,.map 1,.sl 2 2 0 (List.length p) none]),(1,LObj.map i64 (Zm m)),(2,LObj.row 88 2 (Zg p)),(3,LObj.map i64 w)])) f6)<|ai (f7)<|ai (Eq.refl (Zc f8))<|ai (f8)<|h) (.i (.s (.a) (.s (.b true (.a)) (.s (.k (.s (.r [.a,.v (vOf f3) (.q),.e (rOf f4)]) (.s (.s (.r [.a,.a,.a,.a,.g true (.a),.g true (.a),.g true (.a),.g true (.a),.g true (.a),.t (rOf (Yp (st:=(St.mk 5 [(4,LObj.box 88 [.int i64 a,.nils]),(0,LObj.box 77 [.int i64 rm,.map 1,.sl 2 2 0 (List.length p) none]),(1,LObj.map i64 (Zm m)),(2,LObj.row 88 2 (Zg p)),(3,LObj.map i64 w)])) f6))]) (.a)) .a))) (.r [.v (vOf f7) (.a)])))) (.h [] (eOf f8) (Y2 f8) (rOf f8))) (by kernel_rfl)
theorem cs_lostS(n fu:Nat)(rm:Int)(m:ML)(p:PL)(hp:p.length<=100000)(w:List (Int × LV))(ks:List Int)(cut last:Int)(k:Nat)(hk:k<p.length)(a:Int)(b:List Int)(hx:(Zg p)[k]? = some (.agg [.int .i64 a,.isl 1 (bys b)]))(h1:(k:Int)<=last)(h2:k<ks.length)(h3:atI ks k=0)(r:LX × LEnv × St)(hr:Z2 prog C0 (n+60) 15 1 1 fu (crF ks cut last ((k:Int)+1) p.length) (aS rm m p w)=some r):
  Z2 prog C0 (n+60) 15 1 1 (fu+1) (crF ks cut last k p.length) (aS rm m p w)=some r:=by
 have f1:decide ((↑k:Int)<(p.length:Int))=true:=by simp;omega
 have f2:0<=(↑k:Int)/\(↑k:Int)<(p.length:Int):=by omega
 have f3:=zq8_0 k;have f4:(Zg p)[k]? = some (LV.agg [.int i64 a,.isl 1 (bys b)]):=hx;have f5:decide (last<(↑k:Int))=false:=by simp;omega
 have f6:(ints ks)[Int.toNat (↑k:Int)]? = some (LV.int i64 0):=by (simp (disch:=first | omega | (simp;omega));omega)
 have f7:0<=(↑k:Int)/\(↑k:Int)<((ints ks).length:Int):=by simp;omega
 have f8:LV.bool (if decide (last<(↑k:Int))=true then true else true)=LV.bool true:=by simp
 have f9:LV.int i64 (IntKind.wrap i64 ((↑k:Int)+1))=LV.int i64 ((↑k:Int)+1):=by simp (disch:=omega)
 have f10:=hr;exact dlp (fun h=>ai (congrArg LV.bool f1)<|ai (f2)<|ai (f3)<|ai (f4)<|ai (congrArg some f5)<|ai (congrArg some f5)<|ai (congrArg some f5)<|ai (f7)<|ai (f6)<|ai (congrArg some f5)<|ai (congrArg some f5)<|ai (f8)<|ai (f9)<|ai (Eq.refl (Zc f10))<|ai (f10)<|h) (.i (.s (.a) (.s (.b true (.a)) (.s (.k (.s (.r [.a,.v (vOf f3) (.q),.e (rOf f4)]) (.s (.s (.r [.a,.a,.a,.a,.g false (.a),.g false (.a),.g false (.e (rOf f6)),.g false (.a),.g false (.a),.v (vOf f8) (.a)]) (.a)) .a))) (.r [.v (vOf f9) (.a)])))) (.h [] (eOf f10) (Y2 f10) (rOf f10))) (by kernel_rfl)
theorem cs_lostN(n fu:Nat)(rm:Int)(m:ML)(p:PL)(hp:p.length<=100000)(w:List (Int × LV))(ks:List Int)(cut last:Int)(k:Nat)(hk:k<p.length)(a:Int)(hx:(Zg p)[k]? = some (.agg [.int .i64 a,.nils]))(h1:(k:Int)<=last)(h2:k<ks.length)(h3:atI ks k=0)(r:LX × LEnv × St)(hr:Z2 prog C0 (n+60) 15 1 1 fu (crF ks cut last ((k:Int)+1) p.length) (aS rm m p w)=some r):
  Z2 prog C0 (n+60) 15 1 1 (fu+1) (crF ks cut last k p.length) (aS rm m p w)=some r:=by
 have f1:decide ((↑k:Int)<(p.length:Int))=true:=by simp;omega
 have f2:0<=(↑k:Int)/\(↑k:Int)<(p.length:Int):=by omega
 have f3:=zq8_0 k;have f4:(Zg p)[k]? = some (LV.agg [.int i64 a,.nils]):=hx;have f5:decide (last<(↑k:Int))=false:=by simp;omega
 have f6:(ints ks)[Int.toNat (↑k:Int)]? = some (LV.int i64 0):=by (simp (disch:=first | omega | (simp;omega));omega)
 have f7:0<=(↑k:Int)/\(↑k:Int)<((ints ks).length:Int):=by simp;omega
 have f8:LV.bool (if decide (last<(↑k:Int))=true then true else true)=LV.bool true:=by simp
 have f9:LV.int i64 (IntKind.wrap i64 ((↑k:Int)+1))=LV.int i64 ((↑k:Int)+1):=by simp (disch:=omega)
 have f10:=hr;exact dlp (fun h=>ai (congrArg LV.bool f1)<|ai (f2)<|ai (f3)<|ai (f4)<|ai (congrArg some f5)<|ai (congrArg some f5)<|ai (congrArg some f5)<|ai (f7)<|ai (f6)<|ai (congrArg some f5)<|ai (congrArg some f5)<|ai (f8)<|ai (f9)<|ai (Eq.refl (Zc f10))<|ai (f10)<|h) (.i (.s (.a) (.s (.b true (.a)) (.s (.k (.s (.r [.a,.v (vOf f3) (.q),.e (rOf f4)]) (.s (.s (.r [.a,.a,.a,.a,.g false (.a),.g false (.a),.g false (.e (rOf f6)),.g false (.a),.g false (.a),.v (vOf f8) (.a)]) (.a)) .a))) (.r [.v (vOf f9) (.a)])))) (.h [] (eOf f10) (Y2 f10) (rOf f10))) (by kernel_rfl)
theorem cs_free1(n fu:Nat)(rm:Int)(m:ML)(p:PL)(hp:p.length<=100000)(w:List (Int × LV))(ks:List Int)(cut last:Int)(k:Nat)(hk:k<p.length)(a:Int)(hx:(Zg p)[k]? = some (.agg [.int .i64 a,.nils]))(h1:(k:Int)<last)(h2:k<ks.length)(h3:¬ atI ks k=0)(r:LX × LEnv × St)(hr:Z2 prog C0 (n+60) 15 1 1 fu (crF ks cut last ((k:Int)+1) p.length) (aS rm m p (kdel w a))=some r):
  Z2 prog C0 (n+60) 15 1 1 (fu+1) (crF ks cut last k p.length) (aS rm m p w)=some r:=by
 have f1:decide ((↑k:Int)<(p.length:Int))=true:=by simp;omega
 have f2:0<=(↑k:Int)/\(↑k:Int)<(p.length:Int):=by omega
 have f3:=zq8_0 k;have f4:(Zg p)[k]? = some (LV.agg [.int i64 a,.nils]):=hx;have f5:decide (last<(↑k:Int))=false:=by simp;omega
 have f6:(ints ks)[Int.toNat (↑k:Int)]? = some (LV.int i64 (atI ks k)):=by simp (disch:=omega)
 have f7:0<=(↑k:Int)/\(↑k:Int)<((ints ks).length:Int):=by simp;omega
 have f8:LV.bool (if decide (last<(↑k:Int))=true then true else decide (atI ks k=0))=LV.bool false:=by simp;omega
 have f9:decide ((↑k:Int)=last)=false:=by simp;omega
 have f10:Wa (decide ((↑k:Int)=last)) LV.any (LV.bool false)=some (LV.bool false):=by simp;omega
 have f11:=bput_none (n+49) a w;have f12:LV.int i64 (IntKind.wrap i64 ((↑k:Int)+1))=LV.int i64 ((↑k:Int)+1):=by simp (disch:=omega)
 have f13:=hr;exact dlp (fun h=>ai (congrArg LV.bool f1)<|ai (f2)<|ai (f3)<|ai (f4)<|ai (congrArg some f5)<|ai (congrArg some f5)<|ai (congrArg some f5)<|ai (f7)<|ai (f6)<|ai (congrArg some f5)<|ai (congrArg some f5)<|ai (f8)<|ai (congrArg some f9)<|ai (congrArg some f9)<|ai (congrArg some f9)<|ai (Yp (st:=(St.mk 5 [(4,LObj.box 88 [.int i64 a,.nils]),(0,LObj.box 77 [.int i64 rm,.map 1,.sl 2 2 0 (List.length p) none]),(1,LObj.map i64 (Zm m)),(2,LObj.row 88 2 (Zg p)),(3,LObj.map i64 w)])) f10)<|ai (f11)<|ai (f12)<|ai (Eq.refl (Zc f13))<|ai (f13)<|h) (.i (.s (.a) (.s (.b true (.a)) (.s (.k (.s (.r [.a,.v (vOf f3) (.q),.e (rOf f4)]) (.s (.s (.r [.a,.a,.a,.a,.g false (.a),.g false (.a),.g false (.e (rOf f6)),.g false (.a),.g false (.a),.v (vOf f8) (.a)]) (.a)) (.s (.s (.r [.a,.a,.a,.a,.g false (.a),.g false (.a),.g false (.a),.t (rOf (Yp (st:=(St.mk 5 [(4,LObj.box 88 [.int i64 a,.nils]),(0,LObj.box 77 [.int i64 rm,.map 1,.sl 2 2 0 (List.length p) none]),(1,LObj.map i64 (Zm m)),(2,LObj.row 88 2 (Zg p)),(3,LObj.map i64 w)])) f10))]) (.a)) (.r [.a,.a,.f (rOf f11)]))))) (.r [.v (vOf f12) (.a)])))) (.h [] (eOf f13) (Y2 f13) (rOf f13))) (by kernel_rfl)
theorem cs_free2(n fu:Nat)(rm:Int)(m:ML)(p:PL)(hp:p.length<=100000)(w:List (Int × LV))(ks:List Int)(cut:Int)(k:Nat)(hk:k<p.length)(a:Int)(hx:(Zg p)[k]? = some (.agg [.int .i64 a,.nils]))(h2:k<ks.length)(h3:¬ atI ks k=0)(r:LX × LEnv × St)(hr:Z2 prog C0 (n+60) 15 1 1 fu (crF ks cut k ((k:Int)+1) p.length) (aS rm m p (kdel w a))=some r):
  Z2 prog C0 (n+60) 15 1 1 (fu+1) (crF ks cut k k p.length) (aS rm m p w)=some r:=by
 have f1:decide ((↑k:Int)<(p.length:Int))=true:=by simp;omega
 have f2:0<=(↑k:Int)/\(↑k:Int)<(p.length:Int):=by omega
 have f3:=zq8_0 k;have f4:(Zg p)[k]? = some (LV.agg [.int i64 a,.nils]):=hx;have f5:decide ((↑k:Int)<(↑k:Int))=false:=by simp
 have f6:(ints ks)[Int.toNat (↑k:Int)]? = some (LV.int i64 (atI ks k)):=by simp (disch:=omega)
 have f7:0<=(↑k:Int)/\(↑k:Int)<((ints ks).length:Int):=by simp;omega
 have f8:LV.bool (if decide ((↑k:Int)<(↑k:Int))=true then true else decide (atI ks k=0))=LV.bool false:=by simp;omega
 have f9:decide ((↑k:Int)=(↑k:Int))=true:=by simp
 have f10:LV.bool (if decide ((↑k:Int)=(↑k:Int))=true then false else false)=LV.bool false:=by simp
 have f11:=bput_none (n+49) a w;have f12:LV.int i64 (IntKind.wrap i64 ((↑k:Int)+1))=LV.int i64 ((↑k:Int)+1):=by simp (disch:=omega)
 have f13:=hr;exact dlp (fun h=>ai (congrArg LV.bool f1)<|ai (f2)<|ai (f3)<|ai (f4)<|ai (congrArg some f5)<|ai (congrArg some f5)<|ai (congrArg some f5)<|ai (f7)<|ai (f6)<|ai (congrArg some f5)<|ai (congrArg some f5)<|ai (f8)<|ai (congrArg some f9)<|ai (congrArg some f9)<|ai (congrArg some f9)<|ai (f10)<|ai (f11)<|ai (f12)<|ai (Eq.refl (Zc f13))<|ai (f13)<|h) (.i (.s (.a) (.s (.b true (.a)) (.s (.k (.s (.r [.a,.v (vOf f3) (.q),.e (rOf f4)]) (.s (.s (.r [.a,.a,.a,.a,.g false (.a),.g false (.a),.g false (.e (rOf f6)),.g false (.a),.g false (.a),.v (vOf f8) (.a)]) (.a)) (.s (.s (.r [.a,.a,.a,.a,.g true (.a),.g true (.a),.g true (.a),.v (vOf f10) (.a)]) (.a)) (.r [.a,.a,.f (rOf f11)]))))) (.r [.v (vOf f12) (.a)])))) (.h [] (eOf f13) (Y2 f13) (rOf f13))) (by kernel_rfl)
theorem cs_put1(n fu:Nat)(rm:Int)(m:ML)(p:PL)(hp:p.length<=100000)(w:List (Int × LV))(ks:List Int)(cut last:Int)(k:Nat)(hk:k<p.length)(a:Int)(b:List Int)(hx:(Zg p)[k]? = some (.agg [.int .i64 a,.isl 1 (bys b)]))(hb:b.length=64)(h1:(k:Int)<last)(h2:k<ks.length)(h3:¬ atI ks k=0)(r:LX × LEnv × St)(hr:Z2 prog C0 (n+60) 15 1 1 fu (crF ks cut last ((k:Int)+1) p.length) (aS rm m p (Wy w a (.isl 1 (bys b))))=some r):
  Z2 prog C0 (n+60) 15 1 1 (fu+1) (crF ks cut last k p.length) (aS rm m p w)=some r:=by
 have hb2:b≠[]:=by intro h;subst h;simp at hb
 have f1:decide ((↑k:Int)<(p.length:Int))=true:=by simp;omega
 have f2:0<=(↑k:Int)/\(↑k:Int)<(p.length:Int):=by omega
 have f3:=zq8_0 k;have f4:(Zg p)[k]? = some (LV.agg [.int i64 a,.isl 1 (bys b)]):=hx;have f5:decide (last<(↑k:Int))=false:=by simp;omega
 have f6:(ints ks)[Int.toNat (↑k:Int)]? = some (LV.int i64 (atI ks k)):=by simp (disch:=omega)
 have f7:0<=(↑k:Int)/\(↑k:Int)<((ints ks).length:Int):=by simp;omega
 have f8:LV.bool (if decide (last<(↑k:Int))=true then true else decide (atI ks k=0))=LV.bool false:=by simp;omega
 have f9:decide ((↑k:Int)=last)=false:=by simp;omega
 have f10:Wa (decide ((↑k:Int)=last)) LV.any (LV.bool false)=some (LV.bool false):=by simp;omega
 have f11:=bput_some (n+49) a b w hb2;have f12:LV.int i64 (IntKind.wrap i64 ((↑k:Int)+1))=LV.int i64 ((↑k:Int)+1):=by simp (disch:=omega)
 have f13:=hr;exact dlp (fun h=>ai (congrArg LV.bool f1)<|ai (f2)<|ai (f3)<|ai (f4)<|ai (congrArg some f5)<|ai (congrArg some f5)<|ai (congrArg some f5)<|ai (f7)<|ai (f6)<|ai (congrArg some f5)<|ai (congrArg some f5)<|ai (f8)<|ai (congrArg some f9)<|ai (congrArg some f9)<|ai (congrArg some f9)<|ai (Yp (st:=(St.mk 5 [(4,LObj.box 88 [.int i64 a,.isl 1 (bys b)]),(0,LObj.box 77 [.int i64 rm,.map 1,.sl 2 2 0 (List.length p) none]),(1,LObj.map i64 (Zm m)),(2,LObj.row 88 2 (Zg p)),(3,LObj.map i64 w)])) f10)<|ai (f11)<|ai (f12)<|ai (Eq.refl (Zc f13))<|ai (f13)<|h) (.i (.s (.a) (.s (.b true (.a)) (.s (.k (.s (.r [.a,.v (vOf f3) (.q),.e (rOf f4)]) (.s (.s (.r [.a,.a,.a,.a,.g false (.a),.g false (.a),.g false (.e (rOf f6)),.g false (.a),.g false (.a),.v (vOf f8) (.a)]) (.a)) (.s (.s (.r [.a,.a,.a,.a,.g false (.a),.g false (.a),.g false (.a),.t (rOf (Yp (st:=(St.mk 5 [(4,LObj.box 88 [.int i64 a,.isl 1 (bys b)]),(0,LObj.box 77 [.int i64 rm,.map 1,.sl 2 2 0 (List.length p) none]),(1,LObj.map i64 (Zm m)),(2,LObj.row 88 2 (Zg p)),(3,LObj.map i64 w)])) f10))]) (.a)) (.r [.a,.a,.f (rOf f11)]))))) (.r [.v (vOf f12) (.a)])))) (.h [] (eOf f13) (Y2 f13) (rOf f13))) (by kernel_rfl)
theorem zq8_2(a0:Nat):LV.bool (if decide ((↑a0:Int)=(↑a0:Int))=true then true else false)=LV.bool true:=by simp
theorem cs_put2(n fu:Nat)(rm:Int)(m:ML)(p:PL)(hp:p.length<=100000)(w:List (Int × LV))(ks:List Int)(cut:Int)(k:Nat)(hk:k<p.length)(a:Int)(b:List Int)(hx:(Zg p)[k]? = some (.agg [.int .i64 a,.isl 1 (bys b)]))(hb:b.length=64)(h2:k<ks.length)(h3:¬ atI ks k=0)(hc:cut<0)(r:LX × LEnv × St)(hr:Z2 prog C0 (n+60) 15 1 1 fu (crF ks cut k ((k:Int)+1) p.length) (aS rm m p (Wy w a (.isl 1 (bys b))))=some r):
  Z2 prog C0 (n+60) 15 1 1 (fu+1) (crF ks cut k k p.length) (aS rm m p w)=some r:=by
 have hb2:b≠[]:=by intro h;subst h;simp at hb
 have f1:decide ((↑k:Int)<(p.length:Int))=true:=by simp;omega
 have f2:0<=(↑k:Int)/\(↑k:Int)<(p.length:Int):=by omega
 have f3:=zq8_0 k;have f4:(Zg p)[k]? = some (LV.agg [.int i64 a,.isl 1 (bys b)]):=hx;have f5:decide ((↑k:Int)<(↑k:Int))=false:=by simp
 have f6:(ints ks)[Int.toNat (↑k:Int)]? = some (LV.int i64 (atI ks k)):=by simp (disch:=omega)
 have f7:0<=(↑k:Int)/\(↑k:Int)<((ints ks).length:Int):=by simp;omega
 have f8:LV.bool (if decide ((↑k:Int)<(↑k:Int))=true then true else decide (atI ks k=0))=LV.bool false:=by simp;omega
 have f9:decide ((↑k:Int)=(↑k:Int))=true:=by simp
 have f10:List.isEmpty (bys b)=false:=by simp;omega
 have f11:=zq8_2 k;have f12:LV.bool (if true=true then decide (0<=cut) else false)=LV.bool false:=by simp;omega
 have f13:=bput_some (n+49) a b w hb2;have f14:LV.int i64 (IntKind.wrap i64 ((↑k:Int)+1))=LV.int i64 ((↑k:Int)+1):=by simp (disch:=omega)
 have f15:=hr;exact dlp (fun h=>ai (congrArg LV.bool f1)<|ai (f2)<|ai (f3)<|ai (f4)<|ai (congrArg some f5)<|ai (congrArg some f5)<|ai (congrArg some f5)<|ai (f7)<|ai (f6)<|ai (congrArg some f5)<|ai (congrArg some f5)<|ai (f8)<|ai (congrArg some f9)<|ai (congrArg some f9)<|ai (congrArg some f9)<|ai (f10)<|ai (f11)<|ai (f12)<|ai (f13)<|ai (f14)<|ai (Eq.refl (Zc f15))<|ai (f15)<|h) (.i (.s (.a) (.s (.b true (.a)) (.s (.k (.s (.r [.a,.v (vOf f3) (.q),.e (rOf f4)]) (.s (.s (.r [.a,.a,.a,.a,.g false (.a),.g false (.a),.g false (.e (rOf f6)),.g false (.a),.g false (.a),.v (vOf f8) (.a)]) (.a)) (.s (.s (.r [.a,.a,.a,.a,.g true (.a),.g true (.a),.g true (.q),.v (vOf f11) (.a),.a,.a,.a,.v (vOf f12) (.a)]) (.a)) (.r [.a,.a,.f (rOf f13)]))))) (.r [.v (vOf f14) (.a)])))) (.h [] (eOf f15) (Y2 f15) (rOf f15))) (by kernel_rfl)
theorem cs_put3(n fu:Nat)(rm:Int)(m:ML)(p:PL)(hp:p.length<=100000)(w:List (Int × LV))(ks:List Int)(cut:Int)(k:Nat)(hk:k<p.length)(a:Int)(b:List Int)(hx:(Zg p)[k]? = some (.agg [.int .i64 a,.isl 1 (bys b)]))(hb:b.length=64)(h2:k<ks.length)(h3:¬ atI ks k=0)(hc:64<=cut)(r:LX × LEnv × St)(hr:Z2 prog C0 (n+60) 15 1 1 fu (crF ks cut k ((k:Int)+1) p.length) (aS rm m p (Wy w a (.isl 1 (bys b))))=some r):
  Z2 prog C0 (n+60) 15 1 1 (fu+1) (crF ks cut k k p.length) (aS rm m p w)=some r:=by
 have hb2:b≠[]:=by intro h;subst h;simp at hb
 have f1:decide ((↑k:Int)<(p.length:Int))=true:=by simp;omega
 have f2:0<=(↑k:Int)/\(↑k:Int)<(p.length:Int):=by omega
 have f3:=zq8_0 k;have f4:(Zg p)[k]? = some (LV.agg [.int i64 a,.isl 1 (bys b)]):=hx;have f5:decide ((↑k:Int)<(↑k:Int))=false:=by simp
 have f6:(ints ks)[Int.toNat (↑k:Int)]? = some (LV.int i64 (atI ks k)):=by simp (disch:=omega)
 have f7:0<=(↑k:Int)/\(↑k:Int)<((ints ks).length:Int):=by simp;omega
 have f8:LV.bool (if decide ((↑k:Int)<(↑k:Int))=true then true else decide (atI ks k=0))=LV.bool false:=by simp;omega
 have f9:decide ((↑k:Int)=(↑k:Int))=true:=by simp
 have f10:List.isEmpty (bys b)=false:=by simp;omega
 have f11:=zq8_2 k;have f12:LV.bool (if true=true then decide (0<=cut) else false)=LV.bool true:=by simp;omega
 have f13:LV.bool (if true=true then decide (cut<64) else false)=LV.bool false:=by simp;omega
 have f14:=bput_some (n+49) a b w hb2;have f15:LV.int i64 (IntKind.wrap i64 ((↑k:Int)+1))=LV.int i64 ((↑k:Int)+1):=by simp (disch:=omega)
 have f16:=hr;exact dlp (fun h=>ai (congrArg LV.bool f1)<|ai (f2)<|ai (f3)<|ai (f4)<|ai (congrArg some f5)<|ai (congrArg some f5)<|ai (congrArg some f5)<|ai (f7)<|ai (f6)<|ai (congrArg some f5)<|ai (congrArg some f5)<|ai (f8)<|ai (congrArg some f9)<|ai (congrArg some f9)<|ai (congrArg some f9)<|ai (f10)<|ai (f11)<|ai (f12)<|ai (f13)<|ai (f14)<|ai (f15)<|ai (Eq.refl (Zc f16))<|ai (f16)<|h) (.i (.s (.a) (.s (.b true (.a)) (.s (.k (.s (.r [.a,.v (vOf f3) (.q),.e (rOf f4)]) (.s (.s (.r [.a,.a,.a,.a,.g false (.a),.g false (.a),.g false (.e (rOf f6)),.g false (.a),.g false (.a),.v (vOf f8) (.a)]) (.a)) (.s (.s (.r [.a,.a,.a,.a,.g true (.a),.g true (.a),.g true (.q),.v (vOf f11) (.a),.a,.a,.a,.v (vOf f12) (.a),.a,.a,.a,.v (vOf f13) (.a)]) (.a)) (.r [.a,.a,.f (rOf f14)]))))) (.r [.v (vOf f15) (.a)])))) (.h [] (eOf f16) (Y2 f16) (rOf f16))) (by kernel_rfl)
theorem zq8_3(a0:Int)(a1:List Int):LV.isl 1 (List.drop 0 (List.take (Int.toNat (Option.getD (some a0) ((bys a1).length:Int))) (bys a1)))=LV.isl 1 (bys (List.take (a0.toNat) a1)):=by simp
theorem cs_torn(n fu:Nat)(rm:Int)(m:ML)(p:PL)(hp:p.length<=100000)(w:List (Int × LV))(ks:List Int)(cut:Int)(k:Nat)(hk:k<p.length)(a:Int)(b:List Int)(hx:(Zg p)[k]? = some (.agg [.int .i64 a,.isl 1 (bys b)]))(hb:b.length=64)(h2:k<ks.length)(h3:¬ atI ks k=0)(hc:0<=cut)(hc2:cut<64)(c:List Int)(hg:Yk w a=some (.isl 1 (bys c)))(r:LX × LEnv × St)(hr:Z2 prog C0 (n+60) 15 1 1 fu (crF ks cut k ((k:Int)+1) p.length) (aS rm m p (Wy w a (.isl 1 (bys (Z6 (blk c) 0 (b.take cut.toNat))))))=some r):
  Z2 prog C0 (n+60) 15 1 1 (fu+1) (crF ks cut k k p.length) (aS rm m p w)=some r:=by
 have hb2:b≠[]:=by intro h;subst h;simp at hb
 have f1:decide ((↑k:Int)<(p.length:Int))=true:=by simp;omega
 have f2:0<=(↑k:Int)/\(↑k:Int)<(p.length:Int):=by omega
 have f3:=zq8_0 k;have f4:(Zg p)[k]? = some (LV.agg [.int i64 a,.isl 1 (bys b)]):=hx;have f5:decide ((↑k:Int)<(↑k:Int))=false:=by simp
 have f6:(ints ks)[Int.toNat (↑k:Int)]? = some (LV.int i64 (atI ks k)):=by simp (disch:=omega)
 have f7:0<=(↑k:Int)/\(↑k:Int)<((ints ks).length:Int):=by simp;omega
 have f8:LV.bool (if decide ((↑k:Int)<(↑k:Int))=true then true else decide (atI ks k=0))=LV.bool false:=by simp;omega
 have f9:decide ((↑k:Int)=(↑k:Int))=true:=by simp
 have f10:List.isEmpty (bys b)=false:=by simp;omega
 have f11:=zq8_2 k;have f12:LV.bool (if true=true then decide (0<=cut) else false)=LV.bool true:=by simp;omega
 have f13:LV.bool (if true=true then decide (cut<64) else false)=LV.bool true:=by simp;omega
 have f14:Yk w a=some (LV.isl 1 (bys c)):=hg;have f15:=whole_ok (n+50) c;have f16:(0:Int)<=(0:Int)/\(0:Int)<=Option.getD (some cut) ((bys b).length:Int)/\Option.getD (some cut) ((bys b).length:Int)<=((bys b).length:Int):=by simp;omega
 have f17:=zq8_3 cut b;have f18:Yx true 1 (Zi (bys (List.take (cut.toNat) b)))=true:=by simp
 have f19:64<=List.length (bys (blk c)):=by simp
 have f20:LV.int i64 (↑(min (List.length (Zi (bys (List.take (cut.toNat) b)))) 64):Int)=LV.int i64 (max cut 0):=by simp (disch:=omega)
 have f21:LObj.row 5 1 (Z7 (bys (blk c)) 0 (List.take (min (List.length (Zi (bys (List.take (cut.toNat) b)))) 64) (Zi (bys (List.take (cut.toNat) b)))))=LObj.row 5 1 (bys (Z6 (blk c) 0 (List.take (cut.toNat) b))):=by simp (disch:=first | omega | (simp;omega))
 have f22:LV.agg [.int i64 a,if 1=1 then if 1=1/\0+64<=List.length (bys (Z6 (blk c) 0 (List.take (cut.toNat) b)))/\W0 64 none=true then LV.isl 1 (List.take 64 (List.drop 0 (bys (Z6 (blk c) 0 (List.take (cut.toNat) b))))) else LV.any else LV.sl 1 1 0 64 none]=LV.agg [.int i64 a,.isl 1 (bys (Z6 (blk c) 0 (List.take (cut.toNat) b)))]:=by simp (disch:=first | omega | (simp;omega))
 have f23:(if 1=1 then if 1=1/\0+64<=List.length (bys (Z6 (blk c) 0 (List.take (cut.toNat) b)))/\W0 64 none=true then LV.isl 1 (List.take 64 (List.drop 0 (bys (Z6 (blk c) 0 (List.take (cut.toNat) b))))) else LV.any else LV.sl 1 1 0 64 none)=LV.isl 1 (bys (Z6 (blk c) 0 (List.take (cut.toNat) b))):=by simp (disch:=first | omega | (simp;omega))
 have f24:LObj.box 88 [.int i64 a,if 1=1 then if 1=1/\0+64<=List.length (bys (Z6 (blk c) 0 (List.take (cut.toNat) b)))/\W0 64 none=true then LV.isl 1 (List.take 64 (List.drop 0 (bys (Z6 (blk c) 0 (List.take (cut.toNat) b))))) else LV.any else LV.sl 1 1 0 64 none]=LObj.box 88 [.int i64 a,.isl 1 (bys (Z6 (blk c) 0 (List.take (cut.toNat) b)))]:=by simp (disch:=first | omega | (simp;omega))
 have f25:Zd prog C0 (Z3 prog C0 (n+59)) (n+59) 41 [.map 0,.agg [.int i64 a,.sl 1 1 0 64 none]] (St.mk 2 [(0,LObj.map i64 w),(1,LObj.row 5 1 (bys (Z6 (blk c) 0 (List.take (cut.toNat) b))))])=some (LV.tup [],St.mk 2 [(0,LObj.map i64 (Wy w a (LV.isl 1 (bys (Z6 (blk c) 0 (List.take (cut.toNat) b))))))]):=drn (fun h=>ai (f22)<|ai (f23)<|ai (f23)<|ai (congrArg some f24)<|h) (.s (.a) (.s (.a) (.r [.a,.a,.a,.a,.a,.z [.y 1 (vOf f22),.y 5 (vOf f23),.y 14 (vOf f23),.x 2 (vOf f24)] (.a)]))) [] .a (by kernel_rfl)
 have f26:LV.int i64 (IntKind.wrap i64 ((↑k:Int)+1))=LV.int i64 ((↑k:Int)+1):=by simp (disch:=omega)
 have f27:=hr;exact dlp (fun h=>ai (congrArg LV.bool f1)<|ai (f2)<|ai (f3)<|ai (f4)<|ai (congrArg some f5)<|ai (congrArg some f5)<|ai (congrArg some f5)<|ai (f7)<|ai (f6)<|ai (congrArg some f5)<|ai (congrArg some f5)<|ai (f8)<|ai (congrArg some f9)<|ai (congrArg some f9)<|ai (congrArg some f9)<|ai (f10)<|ai (f11)<|ai (f12)<|ai (f13)<|ai (f14)<|ai (f15)<|ai (f16)<|ai (f17)<|ai (f18)<|ai (f19)<|ai (f20)<|ai (congrArg some f21)<|ai (f25)<|ai (f26)<|ai (Eq.refl (Zc f27))<|ai (f27)<|h) (.i (.s (.a) (.s (.b true (.a)) (.s (.k (.s (.r [.a,.v (vOf f3) (.q),.e (rOf f4)]) (.s (.s (.r [.a,.a,.a,.a,.g false (.a),.g false (.a),.g false (.e (rOf f6)),.g false (.a),.g false (.a),.v (vOf f8) (.a)]) (.a)) (.s (.s (.r [.a,.a,.a,.a,.g true (.a),.g true (.a),.g true (.q),.v (vOf f11) (.a),.a,.a,.a,.v (vOf f12) (.a),.a,.a,.a,.v (vOf f13) (.a)]) (.c (.s (.r [.a,.a,.a,.o (vOf f14),.f (rOf f15)]) (.s (.r [.a,.a,.a,.a,.v (vOf f17) (.q),.x 5 (vOf f21) (.v (vOf f20) (.q))]) (.a))))) (.r [.a,.a,.f (rOf f25)]))))) (.r [.v (vOf f26) (.a)])))) (.h [] (eOf f27) (Y2 f27) (rOf f27))) (by kernel_rfl)
theorem cs_torn0(n fu:Nat)(rm:Int)(m:ML)(p:PL)(hp:p.length<=100000)(w:List (Int × LV))(ks:List Int)(cut:Int)(k:Nat)(hk:k<p.length)(a:Int)(b:List Int)(hx:(Zg p)[k]? = some (.agg [.int .i64 a,.isl 1 (bys b)]))(hb:b.length=64)(h2:k<ks.length)(h3:¬ atI ks k=0)(hc:0<=cut)(hc2:cut<64)(hg:Yk w a=none)(r:LX × LEnv × St)(hr:Z2 prog C0 (n+60) 15 1 1 fu (crF ks cut k ((k:Int)+1) p.length) (aS rm m p (Wy w a (.isl 1 (bys (Z6 (List.replicate 64 0) 0 (b.take cut.toNat))))))=some r):
  Z2 prog C0 (n+60) 15 1 1 (fu+1) (crF ks cut k k p.length) (aS rm m p w)=some r:=by
 have hb2:b≠[]:=by intro h;subst h;simp at hb
 have f1:decide ((↑k:Int)<(p.length:Int))=true:=by simp;omega
 have f2:0<=(↑k:Int)/\(↑k:Int)<(p.length:Int):=by omega
 have f3:=zq8_0 k;have f4:(Zg p)[k]? = some (LV.agg [.int i64 a,.isl 1 (bys b)]):=hx;have f5:decide ((↑k:Int)<(↑k:Int))=false:=by simp
 have f6:(ints ks)[Int.toNat (↑k:Int)]? = some (LV.int i64 (atI ks k)):=by simp (disch:=omega)
 have f7:0<=(↑k:Int)/\(↑k:Int)<((ints ks).length:Int):=by simp;omega
 have f8:LV.bool (if decide ((↑k:Int)<(↑k:Int))=true then true else decide (atI ks k=0))=LV.bool false:=by simp;omega
 have f9:decide ((↑k:Int)=(↑k:Int))=true:=by simp
 have f10:List.isEmpty (bys b)=false:=by simp;omega
 have f11:=zq8_2 k;have f12:LV.bool (if true=true then decide (0<=cut) else false)=LV.bool true:=by simp;omega
 have f13:LV.bool (if true=true then decide (cut<64) else false)=LV.bool true:=by simp;omega
 have f14:Yk w a=none:=hg;have f15:Zd prog C0 (Z3 prog C0 (n+59)) (n+59) 40 [.nils] (St.mk 0 [])=some (LV.sl 1 0 0 64 none,St.mk 1 [(0,LObj.row 5 1 (Z7 (List.replicate 64 (LV.int IntKind.u8 0)) 0 []))]):=by kernel_rfl
 have f16:(0:Int)<=(0:Int)/\(0:Int)<=Option.getD (some cut) ((bys b).length:Int)/\Option.getD (some cut) ((bys b).length:Int)<=((bys b).length:Int):=by simp;omega
 have f17:=zq8_3 cut b;have f18:LObj.row 5 1 (Z7 (List.replicate 64 (LV.int IntKind.u8 0)) 0 [])=LObj.row 5 1 (bys (List.replicate 64 0)):=by simp
 have f19:Yx true 1 (Zi (bys (List.take (cut.toNat) b)))=true:=by simp
 have f20:64<=64:=by omega
 have f21:LV.int i64 (↑(min (List.length (Zi (bys (List.take (cut.toNat) b)))) 64):Int)=LV.int i64 (max cut 0):=by simp (disch:=omega)
 have f22:LObj.row 5 1 (Z7 (bys (List.replicate 64 0)) 0 (List.take (min (List.length (Zi (bys (List.take (cut.toNat) b)))) 64) (Zi (bys (List.take (cut.toNat) b)))))=LObj.row 5 1 (bys (Z6 (List.replicate 64 0) 0 (List.take (cut.toNat) b))):=by simp (disch:=first | omega | (simp;omega)) [-List.reduceReplicate]
 have f23:LV.agg [.int i64 a,if 1=1 then if 1=1/\0+64<=List.length (bys (Z6 (List.replicate 64 0) 0 (List.take (cut.toNat) b)))/\W0 64 none=true then LV.isl 1 (List.take 64 (List.drop 0 (bys (Z6 (List.replicate 64 0) 0 (List.take (cut.toNat) b))))) else LV.any else LV.sl 1 1 0 64 none]=LV.agg [.int i64 a,.isl 1 (bys (Z6 (List.replicate 64 0) 0 (List.take (cut.toNat) b)))]:=by simp (disch:=first | omega | (simp;omega)) [-List.reduceReplicate]
 have f24:(if 1=1 then if 1=1/\0+64<=List.length (bys (Z6 (List.replicate 64 0) 0 (List.take (cut.toNat) b)))/\W0 64 none=true then LV.isl 1 (List.take 64 (List.drop 0 (bys (Z6 (List.replicate 64 0) 0 (List.take (cut.toNat) b))))) else LV.any else LV.sl 1 1 0 64 none)=LV.isl 1 (bys (Z6 (List.replicate 64 0) 0 (List.take (cut.toNat) b))):=by simp (disch:=first | omega | (simp;omega)) [-List.reduceReplicate]
 have f25:LObj.box 88 [.int i64 a,if 1=1 then if 1=1/\0+64<=List.length (bys (Z6 (List.replicate 64 0) 0 (List.take (cut.toNat) b)))/\W0 64 none=true then LV.isl 1 (List.take 64 (List.drop 0 (bys (Z6 (List.replicate 64 0) 0 (List.take (cut.toNat) b))))) else LV.any else LV.sl 1 1 0 64 none]=LObj.box 88 [.int i64 a,.isl 1 (bys (Z6 (List.replicate 64 0) 0 (List.take (cut.toNat) b)))]:=by simp (disch:=first | omega | (simp;omega)) [-List.reduceReplicate]
 have f26:Zd prog C0 (Z3 prog C0 (n+59)) (n+59) 41 [.map 0,.agg [.int i64 a,.sl 1 1 0 64 none]] (St.mk 2 [(0,LObj.map i64 w),(1,LObj.row 5 1 (bys (Z6 (List.replicate 64 0) 0 (List.take (cut.toNat) b))))])=some (LV.tup [],St.mk 2 [(0,LObj.map i64 (Wy w a (LV.isl 1 (bys (Z6 (List.replicate 64 0) 0 (List.take (cut.toNat) b))))))]):=drn (fun h=>ai (f23)<|ai (f24)<|ai (f24)<|ai (congrArg some f25)<|h) (.s (.a) (.s (.a) (.r [.a,.a,.a,.a,.a,.z [.y 1 (vOf f23),.y 5 (vOf f24),.y 14 (vOf f24),.x 2 (vOf f25)] (.a)]))) [] .a (by kernel_rfl)
 have f27:LV.int i64 (IntKind.wrap i64 ((↑k:Int)+1))=LV.int i64 ((↑k:Int)+1):=by simp (disch:=omega)
 have f28:=hr;exact dlp (fun h=>ai (congrArg LV.bool f1)<|ai (f2)<|ai (f3)<|ai (f4)<|ai (congrArg some f5)<|ai (congrArg some f5)<|ai (congrArg some f5)<|ai (f7)<|ai (f6)<|ai (congrArg some f5)<|ai (congrArg some f5)<|ai (f8)<|ai (congrArg some f9)<|ai (congrArg some f9)<|ai (congrArg some f9)<|ai (f10)<|ai (f11)<|ai (f12)<|ai (f13)<|ai (f14)<|ai (f15)<|ai (f16)<|ai (f17)<|ai (congrArg some f18)<|ai (f19)<|ai (f20)<|ai (f21)<|ai (congrArg some f22)<|ai (f26)<|ai (f27)<|ai (Eq.refl (Zc f28))<|ai (f28)<|h) (.i (.s (.a) (.s (.b true (.a)) (.s (.k (.s (.r [.a,.v (vOf f3) (.q),.e (rOf f4)]) (.s (.s (.r [.a,.a,.a,.a,.g false (.a),.g false (.a),.g false (.e (rOf f6)),.g false (.a),.g false (.a),.v (vOf f8) (.a)]) (.a)) (.s (.s (.r [.a,.a,.a,.a,.g true (.a),.g true (.a),.g true (.q),.v (vOf f11) (.a),.a,.a,.a,.v (vOf f12) (.a),.a,.a,.a,.v (vOf f13) (.a)]) (.c (.s (.r [.a,.a,.a,.o (vOf f14),.f (rOf f15)]) (.s (.r [.a,.a,.a,.a,.x 5 (vOf f18) (.v (vOf f17) (.q)),.x 5 (vOf f22) (.v (vOf f21) (.q))]) (.a))))) (.r [.a,.a,.f (rOf f26)]))))) (.r [.v (vOf f27) (.a)])))) (.h [] (eOf f28) (Y2 f28) (rOf f28))) (by kernel_rfl)
theorem cs_end(n fu:Nat)(rm:Int)(m:ML)(p:PL)(hp:p.length<=100000)(w:List (Int × LV))(ks:List Int)(cut last:Int):
  Z2 prog C0 (n+60) 15 1 1 (fu+1) (crF ks cut last p.length p.length) (aS rm m p w)=some (.exit 2,crG ks cut last p.length p.length,aS rm m p w):=by
 have f1:decide ((p.length:Int)<(p.length:Int))=false:=by simp
 exact dlp (fun h=>ai (congrArg LV.bool f1)<|h) (.i (.s (.a) (.s (.b false (.a)) .a)) (.a)) (by kernel_rfl)
theorem zq8_5(a0:ML):LObj.map i64 (List.zip (Zn a0) (Xl a0))=LObj.map i64 (Zm a0):=by simp
theorem crash_thru(n:Nat)(rm:Int)(m m':ML)(p:PL)(hp:p.length<=100000)(ks:List Int)(cut last:Int)(hn:0<p.length)(L:Z2 prog C0 (n+60) 15 0 1 (n+60) (crE ks cut (-1) 0 p.length) (crS rm m p)=some (.exit 0,crX ks cut last p.length p.length,crS rm m p))(L2:Z2 prog C0 (n+60) 15 1 1 (n+60) (crF ks cut last 0 p.length) (aS rm m p (Zm m))=some (.exit 2,crG ks cut last p.length p.length,aS rm m p (Zm m'))):
  Zd prog C0 (Z3 prog C0 (n+60)) (n+60) 15 [.ptr 0 0,.isl 1 (ints ks),.int .i64 cut] ⟨1,[(0,dO rm m p)]⟩=some (.tup [],⟨1,[(0,dO rm m' [])]⟩):=by
 have f1:LV.int i64 ((Zg p).length:Int)=LV.int i64 (p.length:Int):=by simp
 have f2:LObj.box 77 [.int i64 rm,.omap i64 (Zn m) (Xl m),.sl 2 1 0 (List.length (Zg p)) none]=LObj.box 77 [.int i64 rm,.omap i64 (Zn m) (Xl m),.sl 2 1 0 (List.length p) none]:=by simp
 have f3:=L
 have f4:=zq8_5 m;have f5:=clone_ok (n+54) m;have f6:=L2;have f7:(LV.tup [],St.mk 1 [(0,LObj.box 77 [.int i64 rm,.omap i64 (List.map (·.1) (Zm m')) (List.map (·.2) (Zm m')),.own 88 2 []])])=(LV.tup [],St.mk 1 [(0,dO rm m' [])]):=by simp
 exact drn (fun h=>ai (f1)<|ai (congrArg some f2)<|ai (Eq.refl (Zc f3))<|ai (f3)<|ai (congrArg some f4)<|ai (f5)<|ai (Eq.refl (Zc f6))<|ai (f6)<|f7) (.s (.a) (.s (.s (.a) (.k (.l (.h [.y 16 (vOf f1),.x 0 (vOf f2)] (eOf f3) (Y2 f3) (rOf f3))))) (.s (.r [.a,.a,.a,.x 2 (vOf f4) (.a),.f (rOf f5)]) (.s (.s (.a) (.k (.l (.h [] (eOf f6) (Y2 f6) (rOf f6))))) (.a))))) [] .q (by kernel_rfl)
def mset:ML->Int->List Int->ML
 | [],_,_=>[]
 | (k,v)::l,n,x=>if k=n then (n,x)::l else (k,v)::mset l n x
def mins:ML->Int->List Int->ML
 | [],n,x=>[(n,x)]
 | (k,v)::l,n,x=>if n<k then (n,x)::(k,v)::l else (k,v)::mins l n x
def mput2(m:ML)(n:Int)(x:List Int):ML:=if (mget m n).isSome then mset m n x else mins m n x
theorem kset_mapE(a:Int)(b:List Int):∀ m:ML,kset (Zm m) a (.isl 1 (bys b))=Zm (mset m a b)
 | []=>rfl
 | (k,v)::m=>by
  have ih:=kset_mapE a b m
  show kset ((k,.isl 1 (bys v))::Zm m) a (.isl 1 (bys b))=_
  simp only [kset,mset]
  split
  ·rfl
  ·rw [ih];rfl
theorem kins_mapE(a:Int)(b:List Int):∀ m:ML,kins (Zm m) a (.isl 1 (bys b))=Zm (mins m a b)
 | []=>rfl
 | (k,v)::m=>by
  have ih:=kins_mapE a b m
  show kins ((k,.isl 1 (bys v))::Zm m) a (.isl 1 (bys b))=_
  simp only [kins,mins]
  split
  ·rfl
  ·rw [ih];rfl
theorem kput_mapE(a:Int)(b:List Int)(m:ML):Wy (Zm m) a (.isl 1 (bys b))=Zm (mput2 m a b):=by
 unfold Wy mput2;rw [kget_mapE,Option.isSome_map,kset_mapE,kins_mapE]
 split <;> rfl
theorem kdel_mapE(a:Int):∀ m,kdel (Zm m) a=Zm (mdel m a)
 | []=>rfl
 | (k,v)::m=>by
  have ih:=kdel_mapE a m
  show kdel ((k,.isl 1 (bys v))::Zm m) a=_
  simp only [kdel,mdel]
  split
  ·rfl
  ·rw [ih];rfl
def Yn:PL->ML->ML
 | [],m=>m
 | (a,some b)::q,m=>Yn q (mput2 m a b)
 | (a,none)::q,m=>Yn q (mdel m a)
theorem applyP_mapE:∀ (p:PL) (m:ML),applyP p (Zm m)=Zm (Yn p m)
 | [],m=>rfl
 | (a,some b)::q,m=>by simp only [applyP,Yn,kput_mapE,applyP_mapE q]
 | (a,none)::q,m=>by simp only [applyP,Yn,kdel_mapE,applyP_mapE q]
def lastK(ks:List Int):Nat->Int
 | 0=>-1
 | k+1=>if k<ks.length/\¬ atI ks k=0 then k else lastK ks k
def cur(m:ML)(a:Int):List Int:=match mget m a with
 | some c=>blk c
 | none=>List.replicate 64 0
def stepM(ks:List Int)(cut last:Int)(k:Nat)(m:ML)(x:Int × Option (List Int)):ML:=
 if last<k∨atI ks k=0 then m else
 match x.2 with
 | none=>mdel m x.1
 | some b=>if (k:Int)=last/\0<=cut/\cut<64 then mput2 m x.1 (Z6 (cur m x.1) 0 (b.take cut.toNat)) else mput2 m x.1 b
def Va(ks:List Int)(cut last:Int):PL->Nat->ML->ML
 | [],_,m=>m
 | x::q,k,m=>Va ks cut last q (k+1) (stepM ks cut last k m x)
theorem lastK_lt(ks:List Int):∀ k,lastK ks k<k/\lastK ks k<ks.length
 | 0=>by simp only [lastK];omega
 | k+1=>by
  have ih:=lastK_lt ks k;simp only [lastK]
  split <;> omega
theorem cr_loop(n:Nat)(rm:Int)(m:ML)(p:PL)(ks:List Int)(cut:Int)(N:Nat)(hN:N<=100000):∀ (j k fu:Nat),k+j=N->j<fu ->
  Z2 prog C0 (n+60) 15 0 1 fu (crE ks cut (lastK ks k) k N) (crS rm m p)=some (.exit 0,crX ks cut (lastK ks N) N N,crS rm m p)
 | 0,k,fu,hk,hf=>by
  obtain ⟨fu,rfl⟩:∃ q,fu=q+1:=⟨fu-1,by omega⟩
  obtain rfl:k=N:=by omega
  exact cr_end n fu rm m p ks cut _ k hN
 | j+1,k,fu,hk,hf=>by
  obtain ⟨fu,rfl⟩:∃ q,fu=q+1:=⟨fu-1,by omega⟩
  have ih:=cr_loop n rm m p ks cut N hN j (k+1) fu (by omega) (by omega)
  by_cases h1:k<ks.length
  ·by_cases h2:atI ks k=0
   ·have e:lastK ks (k+1)=lastK ks k:=by simp [lastK,h2]
    rw [e] at ih;exact cr_miss n fu rm m p ks cut _ k N hN (by omega) h1 h2 _ ih
   ·have e:lastK ks (k+1)=k:=by simp [lastK,h1,h2]
    rw [e] at ih;exact cr_hit n fu rm m p ks cut _ k N hN (by omega) h1 h2 _ ih
  ·have e:lastK ks (k+1)=lastK ks k:=by simp [lastK,h1]
   rw [e] at ih;exact cr_over n fu rm m p ks cut _ k N hN (by omega) (by omega) _ ih
def ok64(p:PL):Prop:=∀ x∈p,∀ b,x.2=some b->b.length=64
theorem ok64.okP{p:PL}(h:ok64 p):okP p:=fun x hx b hb e=>by
 have:=h x hx b hb;rw [e] at this;simp at this
theorem cs_loop(n:Nat)(rm:Int)(m:ML)(p:PL)(hp:p.length<=100000)(h64:ok64 p)(ks:List Int)(cut last:Int)(hl:last<ks.length):∀ (q:PL) (k fu:Nat) (w:ML),p.drop k=q->k<=p.length->q.length<fu ->
  Z2 prog C0 (n+60) 15 1 1 fu (crF ks cut last k p.length) (aS rm m p (Zm w))=some (.exit 2,crG ks cut last p.length p.length,aS rm m p (Zm (Va ks cut last q k w)))
 | [],k,fu,w,hd,hk,hf=>by
  obtain ⟨fu,rfl⟩:∃ q,fu=q+1:=⟨fu-1,by simp at hf;omega⟩
  have:p.length<=k:=by simpa using hd
  obtain rfl:k=p.length:=by omega
  exact cs_end n fu rm m p hp (Zm w) ks cut last
 | x::q,k,fu,w,hd,hk,hf=>by
  obtain ⟨fu,rfl⟩:∃ q,fu=q+1:=⟨fu-1,by simp at hf;omega⟩
  have hx:p[k]? = some x:=by
   have:=congrArg List.head? hd;simpa [List.head?_drop] using this
  have hlt:k<p.length:=(List.getElem?_eq_some_iff.1 hx).1;have hd2:p.drop (k+1)=q:=by rw [<- List.drop_drop,hd];rfl
  have ih:=fun w'=>cs_loop n rm m p hp h64 ks cut last hl q (k+1) fu w' hd2 (by omega) (by simp at hf;omega)
  have hxl:(Zg p)[k]? = some (pnd x):=by simp only [Zg,List.getElem?_map,hx,Option.map_some]
  obtain ⟨a,o⟩:=x
  have hm:=List.mem_of_getElem? hx
  by_cases h1:last<k
  ·skip
   rw [Va,show stepM ks cut last k w (a,o)=w by unfold stepM;rw [if_pos (.inl h1)]]
   cases o with
   | none=>exact cs_pastN n fu rm m p hp (Zm w) ks cut last k hlt a hxl h1 _ (ih w)
   | some b=>exact cs_pastS n fu rm m p hp (Zm w) ks cut last k hlt a b hxl h1 _ (ih w)
  have hks:k<ks.length:=by omega
  by_cases h3:atI ks k=0
  ·rw [Va,show stepM ks cut last k w (a,o)=w by unfold stepM;rw [if_pos (.inr h3)]]
   cases o with
   | none=>exact cs_lostN n fu rm m p hp (Zm w) ks cut last k hlt a hxl (by omega) hks h3 _ (ih w)
   | some b=>exact cs_lostS n fu rm m p hp (Zm w) ks cut last k hlt a b hxl (by omega) hks h3 _ (ih w)
  have hn:¬ (last<k∨atI ks k=0):=by rintro (h | h);exact h1 h;exact h3 h
  rw [Va];unfold stepM;rw [if_neg hn]
  cases o with
  | none =>
   have I:=ih (mdel w a);rw [<- kdel_mapE] at I
   by_cases he:(k:Int)=last
   ·subst he
    exact cs_free2 n fu rm m p hp (Zm w) ks cut k hlt a hxl hks h3 _ I
   ·exact cs_free1 n fu rm m p hp (Zm w) ks cut last k hlt a hxl (by omega) hks h3 _ I
  | some b =>
   have hb:=h64 _ hm b rfl
   by_cases he:(k:Int)=last
   ·subst he
    by_cases hc:0<=cut/\cut<64
    ·simp only [true_and,hc,and_self,if_true]
     have I:=ih (mput2 w a (Z6 (cur w a) 0 (b.take cut.toNat)));rw [<- kput_mapE] at I;have hg:=kget_mapE a w;unfold cur at I ⊢
     cases hq:mget w a with
     | none =>
      rw [hq] at I hg;exact cs_torn0 n fu rm m p hp (Zm w) ks cut k hlt a b hxl hb hks h3 hc.1 hc.2 hg _ I
     | some c =>
      rw [hq] at I hg;exact cs_torn n fu rm m p hp (Zm w) ks cut k hlt a b hxl hb hks h3 hc.1 hc.2 c hg _ I
    ·simp only [hc,and_false,if_false]
     have I:=ih (mput2 w a b);rw [<- kput_mapE] at I
     by_cases h0:cut<0
     ·exact cs_put2 n fu rm m p hp (Zm w) ks cut k hlt a b hxl hb hks h3 h0 _ I
     ·exact cs_put3 n fu rm m p hp (Zm w) ks cut k hlt a b hxl hb hks h3 (by omega) _ I
   ·simp only [he,false_and,if_false]
    have I:=ih (mput2 w a b);rw [<- kput_mapE] at I;exact cs_put1 n fu rm m p hp (Zm w) ks cut last k hlt a b hxl hb (by omega) hks h3 _ I
def Xf(m:ML)(p:PL)(ks:List Int)(cut:Int):ML:=Va ks cut (lastK ks p.length) p 0 m
theorem crash_any(n:Nat)(rm:Int)(m:ML)(p:PL)(hp:p.length<=100000)(hn:p.length<n+60)(h64:ok64 p)(ks:List Int)(cut:Int):
  Zd prog C0 (Z3 prog C0 (n+60)) (n+60) 15 [.ptr 0 0,.isl 1 (ints ks),.int .i64 cut] ⟨1,[(0,dO rm m p)]⟩=some (.tup [],⟨1,[(0,dO rm (Xf m p ks cut) [])]⟩):=by
 rcases Nat.eq_zero_or_pos p.length with h0 | h0
 ·obtain rfl:=List.length_eq_zero_iff.1 h0
  exact crash_nil n rm m ks cut
 ·exact crash_thru n rm m (Xf m p ks cut) p hp ks cut (lastK ks p.length) h0 (cr_loop n rm m p ks cut p.length hp p.length 0 (n+60) (by omega) hn)
   (cs_loop n rm m p hp h64 ks cut _ (lastK_lt ks p.length).2 p 0 (n+60) m rfl (by omega) hn)
theorem sync_any(n:Nat)(rm:Int)(m:ML)(p:PL)(hp:p.length<=100000)(hn:p.length<=n)(h64:ok64 p):
  Zd prog C0 (Z3 prog C0 (n+41)) (n+41) 22 [.ptr 0 0] ⟨1,[(0,dO rm m p)]⟩=some (.tup [],⟨1,[(0,dO rm (Yn p m) [])]⟩):=
 dsync_ok n rm m (Yn p m) p hp hn h64.okP (applyP_mapE p m)
end Go.Mac
namespace Go.Mac.Nd
open Go Go.Eng Go.Proofs
set_option maxRecDepth 100000
theorem sub_len{α:Type}[BEq α][LawfulBEq α]:∀ {l k:List α},l.Nodup->(∀ x∈l,x∈k)->l.length<=k.length
 | [],_,_,_=>Nat.zero_le _
 | x::l,k,hn,hs=>by
  obtain ⟨h1,h2⟩:=List.nodup_cons.1 hn;have hx:=hs x (by simp)
  have:=sub_len (l:=l) (k:=k.erase x) h2 (fun y hy=>(List.mem_erase_of_ne (by rintro rfl;exact h1 hy)).2 (hs y (by simp [hy])))
  rw [List.length_erase_of_mem hx] at this;have:0<k.length:=List.length_pos_of_mem hx;simp;omega
def Zx(l:List (Int × LV)):List Int:=l.map (·.1)
theorem Wz(n:Int):∀ l:List (Int × LV),(Yk l n).isSome=true↔n∈Zx l
 | []=>by simp [Yk,Zx]
 | (k,v)::l=>by
  have ih:=Wz n l;simp only [Yk,Zx,List.map_cons,List.mem_cons]
  split
  ·rename_i h;simp [h]
  ·rename_i h
   rw [ih]
   constructor
   ·exact fun q=>.inr q
   ·rintro (q | q)
    ·exact absurd q.symm h
    ·exact q
theorem kset_keys(n:Int)(x:LV):∀ l:List (Int × LV),Zx (kset l n x)=Zx l
 | []=>rfl
 | (k,v)::l=>by
  have ih:=kset_keys n x l;simp only [kset]
  split
  ·rename_i h;simp [Zx,h]
  ·simp only [Zx,List.map_cons] at ih ⊢;rw [ih]
theorem kins_perm(n:Int)(x:LV):∀ l:List (Int × LV),(Zx (kins l n x)).Perm (n::Zx l)
 | []=>.refl _
 | (k,v)::l=>by
  have ih:=kins_perm n x l;simp only [kins]
  split
  ·exact .refl _
  ·simp only [Zx,List.map_cons] at ih ⊢
   exact (ih.cons k).trans (.swap _ _ _)
theorem kput_keys(l:List (Int × LV))(n:Int)(x:LV):(n∈Zx l->Zx (Wy l n x)=Zx l)/\(n∉Zx l->(Zx (Wy l n x)).Perm (n::Zx l)):=by
 unfold Wy
 constructor
 ·intro h;rw [if_pos ((Wz n l).2 h)];exact kset_keys n x l
 ·intro h;rw [if_neg (fun h'=>h ((Wz n l).1 h'))];exact kins_perm n x l
theorem kinc_keys(l:List (Int × LV))(n:Int):(n∈Zx l->Zx (kinc l n)=Zx l)/\(n∉Zx l->(Zx (kinc l n)).Perm (n::Zx l)):=by
 unfold kinc
 split
 ·exact kput_keys l n _
 ·exact kput_keys l n _
theorem kinc_mem(l:List (Int × LV))(n a:Int):a∈Zx (kinc l n)↔a=n∨a∈Zx l:=by
 by_cases h:n∈Zx l
 ·rw [(kinc_keys l n).1 h]
  exact ⟨.inr,by rintro (rfl | q);exact h;exact q⟩
 ·rw [((kinc_keys l n).2 h).mem_iff];simp
theorem kinc_nodup(l:List (Int × LV))(n:Int)(hn:(Zx l).Nodup):(Zx (kinc l n)).Nodup:=by
 by_cases h:n∈Zx l
 ·rw [(kinc_keys l n).1 h];exact hn
 ·exact ((kinc_keys l n).2 h).nodup_iff.2 (List.nodup_cons.2 ⟨h,hn⟩)
theorem kincs_mem:∀ (ks:List Int) (l:List (Int × LV)) (a:Int),a∈Zx (List.foldl kinc l ks)↔a∈ks∨a∈Zx l
 | [],l,a=>by simp
 | k::ks,l,a=>by
  rw [List.foldl_cons,kincs_mem ks,kinc_mem];simp only [List.mem_cons]
  constructor
  ·rintro (h | h | h)
   ·exact .inl (.inr h)
   ·exact .inl (.inl h)
   ·exact .inr h
  ·rintro ((h | h) | h)
   ·exact .inr (.inl h)
   ·exact .inl h
   ·exact .inr (.inr h)
theorem kincs_nodup:∀ (ks:List Int) (l:List (Int × LV)),(Zx l).Nodup->(Zx (List.foldl kinc l ks)).Nodup
 | [],l,h=>h
 | k::ks,l,h=>kincs_nodup ks _ (kinc_nodup l k h)
theorem pendN_some(a:Int)(b:List Int)(p:List LV)(l:List (Int × LV)):Wv (pnd (a,some b)::p) l=Wv p (kinc l a):=rfl
theorem pendN_none(a:Int)(p:List LV)(l:List (Int × LV)):Wv (pnd (a,none)::p) l=Wv p l:=rfl
theorem pendN_mem:∀ (p:PL) (l:List (Int × LV)) (a:Int),a∈Zx (Wv (Zg p) l)↔(∃ b,(a,some b)∈p)∨a∈Zx l
 | [],l,a=>by simp [Wv]
 | (k,some b)::p,l,a=>by
  show a∈Zx (Wv (pnd (k,some b)::Zg p) l)↔_
  rw [pendN_some,pendN_mem p,kinc_mem]
  constructor
  ·rintro (⟨c,h⟩ | h | h)
   ·exact .inl ⟨c,by simp [h]⟩
   ·exact .inl ⟨b,by simp [h]⟩
   ·exact .inr h
  ·rintro (⟨c,h⟩ | h)
   ·rcases List.mem_cons.1 h with h | h
    ·injection h with h1 h2;exact .inr (.inl h1)
    ·exact .inl ⟨c,h⟩
   ·exact .inr (.inr h)
 | (k,none)::p,l,a=>by
  show a∈Zx (Wv (pnd (k,none)::Zg p) l)↔_
  rw [pendN_none,pendN_mem p];simp
theorem pendN_nodup:∀ (p:PL) (l:List (Int × LV)),(Zx l).Nodup->(Zx (Wv (Zg p) l)).Nodup
 | [],l,h=>h
 | (k,some b)::p,l,h=>by
  show (Zx (Wv (pnd (k,some b)::Zg p) l)).Nodup
  rw [pendN_some];exact pendN_nodup p _ (kinc_nodup l k h)
 | (k,none)::p,l,h=>by
  show (Zx (Wv (pnd (k,none)::Zg p) l)).Nodup
  rw [pendN_none];exact pendN_nodup p _ h
theorem Xk(m:ML)(p:PL)(a:Int):a∈Zx (Zl m p)↔a∈Zn m∨∃ b,(a,some b)∈p:=by
 unfold Zl;rw [pendN_mem,kincs_mem];simp only [Zx,List.map_nil,List.not_mem_nil,or_false];exact Or.comm
theorem needs_nodup(m:ML)(p:PL):(Zx (Zl m p)).Nodup:=
 pendN_nodup p _ (kincs_nodup _ _ (by simp [Zx]))
theorem needs_length(m:ML)(p:PL):(Zl m p).length=(Zx (Zl m p)).length:=by simp [Zx]
theorem needs_le(m m':ML)(p p':PL)(h:∀ a,a∈Zx (Zl m' p')->a∈Zx (Zl m p)):(Zl m' p').length<=(Zl m p).length:=by
 rw [needs_length,needs_length];exact sub_len (needs_nodup m' p') h
theorem needs_eq(m m':ML)(p p':PL)(h:∀ a,a∈Zx (Zl m' p')↔a∈Zx (Zl m p)):(Zl m' p').length=(Zl m p).length:=
 Nat.le_antisymm (needs_le m m' p p' fun a=>(h a).1) (needs_le m' m p' p fun a=>(h a).2)
theorem needs_more(m:ML)(p:PL)(a:Int)(b:List Int):(Zl m (p++[(a,some b)])).length<=(Zl m p).length+1:=by
 rw [needs_length,needs_length];refine Nat.le_trans (sub_len (k:=a::Zx (Zl m p)) (needs_nodup _ _) fun x hx=>?_) (by simp)
 rw [Xk] at hx;rw [List.mem_cons,Xk]
 rcases hx with h | ⟨c,h⟩
 ·exact .inr (.inl h)
 ·rcases List.mem_append.1 h with h | h
  ·exact .inr (.inr ⟨c,h⟩)
  ·simp at h;exact .inl h.1
theorem needs_same(m:ML)(p:PL)(a:Int)(b:List Int)(h:a∈Zx (Zl m p)):(Zl m (p++[(a,some b)])).length=(Zl m p).length:=by
 refine needs_eq _ _ _ _ fun x=>?_
 rw [Xk,Xk]
 constructor
 ·rintro (q | ⟨c,q⟩)
  ·exact .inl q
  ·rcases List.mem_append.1 q with q | q
   ·exact .inr ⟨c,q⟩
   ·simp at q
    rw [q.1,<- Xk];exact h
 ·rintro (q | ⟨c,q⟩)
  ·exact .inl q
  ·exact .inr ⟨c,by simp [q]⟩
theorem needs_free(m:ML)(p:PL)(a:Int):(Zl m (p++[(a,none)])).length=(Zl m p).length:=by
 refine needs_eq _ _ _ _ fun x=>?_
 rw [Xk,Xk]
 constructor
 ·rintro (q | ⟨c,q⟩)
  ·exact .inl q
  ·simp at q;exact .inr ⟨c,q⟩
 ·rintro (q | ⟨c,q⟩)
  ·exact .inl q
  ·exact .inr ⟨c,by simp [q]⟩
theorem needs_none(l:List (Int × LV))(a:Int):Yk l a=none↔a∉Zx l:=by
 rw [<- Wz];simp
theorem needs_int(m:ML)(p:PL):∀ x∈Zl m p,∃ c,x.2=.int .i64 c/\0<c:=by
 have hk:∀ (l:List (Int × LV)) (n:Int),(∀ x∈l,∃ c,x.2=.int .i64 c/\0<c)->∀ x∈kinc l n,∃ c,x.2=.int .i64 c/\0<c:=by
  intro l n h x hx;have hg:∀ c,Yk l n=some c->∃ k,c=.int .i64 k/\0<k:=by
   intro c hc;have:∀ l:List (Int × LV),Yk l n=some c->(n,c)∈l:=by
    intro l
    induction l with
    | nil=>simp [Yk]
    | cons y l ih =>
     obtain ⟨k,v⟩:=y
     simp only [Yk]
     split
     ·rename_i e;intro h;injection h with h;subst h;subst e;simp
     ·intro h;exact List.mem_cons_of_mem _ (ih h)
   obtain ⟨k,h1,h2⟩:=h _ (this l hc);exact ⟨k,h1,h2⟩
  have hp:∀ (v:Int),0<v->∀ x∈Wy l n (.int .i64 v),∃ c,x.2=.int .i64 c/\0<c:=by
   intro v hv x hx;have hs:∀ l:List (Int × LV),(∀ x∈l,∃ c,x.2=.int .i64 c/\0<c)->∀ x∈kset l n (.int .i64 v),∃ c,x.2=.int .i64 c/\0<c:=by
    intro l
    induction l with
    | nil=>simp [kset]
    | cons y l ih =>
     obtain ⟨k,w⟩:=y
     intro h;simp only [kset]
     split
     ·intro x hx
      rcases List.mem_cons.1 hx with rfl | hx
      ·exact ⟨v,rfl,hv⟩
      ·exact h x (by simp [hx])
     ·intro x hx
      rcases List.mem_cons.1 hx with rfl | hx
      ·exact h _ (by simp)
      ·exact ih (fun x hx=>h x (by simp [hx])) x hx
   have hi:∀ l:List (Int × LV),(∀ x∈l,∃ c,x.2=.int .i64 c/\0<c)->∀ x∈kins l n (.int .i64 v),∃ c,x.2=.int .i64 c/\0<c:=by
    intro l
    induction l with
    | nil=>simp only [kins];intro _ x hx;simp at hx;subst hx;exact ⟨v,rfl,hv⟩
    | cons y l ih =>
     obtain ⟨k,w⟩:=y
     intro h;simp only [kins]
     split
     ·intro x hx
      rcases List.mem_cons.1 hx with rfl | hx
      ·exact ⟨v,rfl,hv⟩
      ·exact h x hx
     ·intro x hx
      rcases List.mem_cons.1 hx with rfl | hx
      ·exact h _ (by simp)
      ·exact ih (fun x hx=>h x (by simp [hx])) x hx
   unfold Wy at hx
   split at hx
   ·exact hs l h x hx
   ·exact hi l h x hx
  unfold kinc at hx
  split at hx
  ·rename_i k c hc
   obtain ⟨q,h1,h2⟩:=hg _ hc;injection h1 with _ h1
   exact hp (c+1) (by omega) x hx
  ·exact hp 1 (by omega) x hx
 have hf:∀ (ks:List Int) (l:List (Int × LV)),(∀ x∈l,∃ c,x.2=.int .i64 c/\0<c)->∀ x∈List.foldl kinc l ks,∃ c,x.2=.int .i64 c/\0<c:=by
  intro ks
  induction ks with
  | nil=>exact fun l h=>h
  | cons k ks ih=>exact fun l h=>ih _ (hk l k h)
 have hq:∀ (p:PL) (l:List (Int × LV)),(∀ x∈l,∃ c,x.2=.int .i64 c/\0<c)->∀ x∈Wv (Zg p) l,∃ c,x.2=.int .i64 c/\0<c:=by
  intro p
  induction p with
  | nil=>exact fun l h=>h
  | cons y p ih =>
   obtain ⟨a,o⟩:=y
   intro l h
   cases o with
   | none=>exact ih l h
   | some b=>exact ih _ (hk l a h)
 exact hq p _ (hf _ _ (by simp))
theorem needs_at(m:ML)(p:PL)(a:Int)(h:a∈Zx (Zl m p)):∃ c,Yk (Zl m p) a=some (.int .i64 c)/\0<c:=by
 have h1:=(Wz a (Zl m p)).2 h;obtain ⟨v,hv⟩:=Option.isSome_iff_exists.1 h1;have:∀ l:List (Int × LV),Yk l a=some v->(a,v)∈l:=by
  intro l
  induction l with
  | nil=>simp [Yk]
  | cons y l ih =>
   obtain ⟨k,w⟩:=y
   simp only [Yk]
   split
   ·rename_i e;intro h;injection h with h;subst h;subst e;simp
   ·intro h;exact List.mem_cons_of_mem _ (ih h)
 obtain ⟨c,h2,h3⟩:=needs_int m p _ (this _ hv);simp only at h2;subst h2;exact ⟨c,hv,h3⟩
def Asc(m:ML):Prop:=(Zn m).Pairwise (· < ·)
theorem mset_keys(n:Int)(x:List Int):∀ m:ML,Zn (mset m n x)=Zn m
 | []=>rfl
 | (k,v)::m=>by
  have ih:=mset_keys n x m;simp only [mset]
  split
  ·rename_i h;simp [Zn,h]
  ·simp only [Zn,List.map_cons] at ih ⊢;rw [ih]
theorem mins_mem(n:Int)(x:List Int)(a:Int):∀ m:ML,a∈Zn (mins m n x)↔a=n∨a∈Zn m
 | []=>by simp [mins,Zn]
 | (k,v)::m=>by
  have ih:=mins_mem n x a m;simp only [mins]
  split
  ·simp [Zn]
  ·simp only [Zn,List.map_cons,List.mem_cons] at ih ⊢
   rw [ih]
   constructor
   ·rintro (h | h | h)
    ·exact .inr (.inl h)
    ·exact .inl h
    ·exact .inr (.inr h)
   ·rintro (h | h | h)
    ·exact .inr (.inl h)
    ·exact .inl h
    ·exact .inr (.inr h)
theorem mins_asc(n:Int)(x:List Int):∀ m:ML,Asc m->n∉Zn m->Asc (mins m n x)
 | [],_,_=>by simp [mins,Asc,Zn]
 | (k,v)::m,h,hn=>by
  have hp:(k::Zn m).Pairwise (· < ·):=h
  obtain ⟨h1,h2⟩:=List.pairwise_cons.1 hp;have hnk:n≠k:=fun e=>hn (by simp [Zn,e])
  have hnm:n∉Zn m:=fun e=>hn (by simp only [Zn,List.map_cons,List.mem_cons];exact .inr e)
  simp only [mins]
  split
  ·rename_i hlt
   show (n::k::Zn m).Pairwise (· < ·)
   refine .cons (fun y hy=>?_) hp
   rcases List.mem_cons.1 hy with rfl | hy
   ·exact hlt
   ·have:=h1 y hy;omega
  ·rename_i hge
   have ih:=mins_asc n x m h2 hnm
   show (k::Zn (mins m n x)).Pairwise (· < ·)
   refine .cons (fun y hy=>?_) ih
   rcases (mins_mem n x y m).1 hy with rfl | hy
   ·omega
   ·exact h1 y hy
theorem Xe(n:Int):∀ m:ML,(mget m n).isSome=true↔n∈Zn m
 | []=>by simp [mget,Zn]
 | (k,v)::m=>by
  have ih:=Xe n m;simp only [mget,Zn,List.map_cons,List.mem_cons] at ih ⊢
  split
  ·rename_i h;simp [h]
  ·rename_i h
   rw [ih]
   constructor
   ·exact fun q=>.inr q
   ·rintro (q | q)
    ·exact absurd q.symm h
    ·exact q
theorem mput2_asc{m:ML}(h:Asc m)(n:Int)(x:List Int):Asc (mput2 m n x):=by
 unfold mput2
 split
 ·unfold Asc;rw [mset_keys];exact h
 ·rename_i hn
  exact mins_asc n x m h (fun q=>hn ((Xe n m).2 q))
theorem mput2_mem(m:ML)(n:Int)(x:List Int)(a:Int):a∈Zn (mput2 m n x)↔a=n∨a∈Zn m:=by
 unfold mput2
 split
 ·rename_i h
  rw [mset_keys];exact ⟨.inr,by rintro (rfl | q);exact (Xe _ _).1 h;exact q⟩
 ·exact mins_mem n x a m
theorem mdel_sub(n:Int):∀ m:ML,(mdel m n).Sublist m
 | []=>.slnil
 | (k,v)::m=>by
  simp only [mdel]
  split
  ·exact List.sublist_cons_self _ _
  ·exact (mdel_sub n m).cons_cons _
theorem mdel_asc{m:ML}(h:Asc m)(n:Int):Asc (mdel m n):=h.sublist ((mdel_sub n m).map _)
theorem mdel_mem{m:ML}{n a:Int}(h:a∈Zn (mdel m n)):a∈Zn m:=((mdel_sub n m).map (·.1)).subset h
theorem mset_val{m:ML}{n:Int}{x:List Int}:∀ {y:Int × List Int},y∈mset m n x->y∈m∨y=(n,x):=by
 induction m with
 | nil=>intro y hy;simp [mset] at hy
 | cons z m ih =>
  obtain ⟨k,v⟩:=z
  intro y hy;simp only [mset] at hy
  split at hy
  ·rcases List.mem_cons.1 hy with rfl | hy
   ·exact .inr rfl
   ·exact .inl (by simp [hy])
  ·rcases List.mem_cons.1 hy with rfl | hy
   ·exact .inl (by simp)
   ·exact (ih hy).imp (fun q=>by simp [q]) id
theorem mins_val{m:ML}{n:Int}{x:List Int}:∀ {y:Int × List Int},y∈mins m n x->y∈m∨y=(n,x):=by
 induction m with
 | nil=>intro y hy;simp [mins] at hy;exact .inr hy
 | cons z m ih =>
  obtain ⟨k,v⟩:=z
  intro y hy;simp only [mins] at hy
  split at hy
  ·rcases List.mem_cons.1 hy with rfl | hy
   ·exact .inr rfl
   ·exact .inl hy
  ·rcases List.mem_cons.1 hy with rfl | hy
   ·exact .inl (by simp)
   ·exact (ih hy).imp (fun q=>by simp [q]) id
theorem mput2_val{m:ML}{n:Int}{x:List Int}{y:Int × List Int}(h:y∈mput2 m n x):y∈m∨y=(n,x):=by
 unfold mput2 at h
 split at h
 ·exact mset_val h
 ·exact mins_val h
def inR(a:Int):Prop:=0<=a/\a<=1073741824
def okM(m:ML):Prop:=Asc m/\∀ x∈m,inR x.1/\x.2.length=64
def okQ(p:PL):Prop:=∀ x∈p,inR x.1/\∀ b,x.2=some b->b.length=64
theorem okM.put{m:ML}(h:okM m){a:Int}(ha:inR a){b:List Int}(hb:b.length=64):okM (mput2 m a b):=
 ⟨mput2_asc h.1 a b,fun x hx=>(mput2_val hx).elim (h.2 x) (by rintro rfl;exact ⟨ha,hb⟩)⟩
theorem okM.del{m:ML}(h:okM m)(a:Int):okM (mdel m a):=⟨mdel_asc h.1 a,fun x hx=>h.2 x ((mdel_sub a m).subset hx)⟩
theorem okM.nil:okM []:=⟨by simp [Asc,Zn],by simp⟩
theorem okM.apply:∀ {p:PL} {m:ML},okQ p->okM m->okM (Yn p m)
 | [],m,_,h=>h
 | (a,some b)::q,m,hp,h=>by
  have hx:=hp (a,some b) (by simp)
  exact okM.apply (p:=q) (fun x hx=>hp x (by simp [hx])) (h.put hx.1 (hx.2 b rfl))
 | (a,none)::q,m,hp,h=>okM.apply (p:=q) (fun x hx=>hp x (by simp [hx])) (h.del a)
theorem apply_mem:∀ {p:PL} {m:ML} {a:Int},a∈Zn (Yn p m)->a∈Zn m∨∃ b,(a,some b)∈p
 | [],m,a,h=>.inl h
 | (k,some b)::q,m,a,h=>by
  rcases apply_mem (p:=q) h with h | ⟨c,h⟩
  ·rcases (mput2_mem m k b a).1 h with rfl | h
   ·exact .inr ⟨b,by simp⟩
   ·exact .inl h
  ·exact .inr ⟨c,by simp [h]⟩
 | (k,none)::q,m,a,h=>by
  rcases apply_mem (p:=q) h with h | ⟨c,h⟩
  ·exact .inl (mdel_mem h)
  ·exact .inr ⟨c,by simp [h]⟩
theorem cur_length(m:ML)(a:Int):(cur m a).length=64:=by
 unfold cur;split <;> simp
theorem torn_length(m:ML)(a:Int)(b:List Int)(hb:b.length=64)(n:Nat):(Z6 (cur m a) 0 (b.take n)).length=64:=by
 rw [spliceI_length,cur_length];simp;omega
theorem step_val(ks:List Int)(cut last:Int)(k:Nat)(m:ML)(x:Int × Option (List Int))(hx:inR x.1/\∀ b,x.2=some b->b.length=64)(h:okM m):
  okM (stepM ks cut last k m x)/\∀ a,a∈Zn (stepM ks cut last k m x)->a∈Zn m∨∃ b,x=(a,some b):=by
 unfold stepM
 split
 ·exact ⟨h,fun a=>.inl⟩
 ·obtain ⟨n,o⟩:=x
  cases o with
  | none=>exact ⟨h.del n,fun a ha=>.inl (mdel_mem ha)⟩
  | some b =>
   have hb:=hx.2 b rfl;simp only
   split
   ·exact ⟨h.put hx.1 (torn_length m n b hb _),fun a ha=>((mput2_mem _ _ _ _).1 ha).elim (fun e=>.inr ⟨b,by rw [e]⟩) .inl⟩
   ·exact ⟨h.put hx.1 hb,fun a ha=>((mput2_mem _ _ _ _).1 ha).elim (fun e=>.inr ⟨b,by rw [e]⟩) .inl⟩
theorem crashM_ok(ks:List Int)(cut last:Int):∀ (p:PL) (k:Nat) (m:ML),okQ p->okM m ->
  okM (Va ks cut last p k m)/\∀ a,a∈Zn (Va ks cut last p k m)->a∈Zn m∨∃ b,(a,some b)∈p
 | [],k,m,_,h=>⟨h,fun a=>.inl⟩
 | x::q,k,m,hp,h=>by
  obtain ⟨s1,s2⟩:=step_val ks cut last k m x (hp x (by simp)) h
  obtain ⟨h1,h2⟩:=crashM_ok ks cut last q (k+1) _ (fun y hy=>hp y (by simp [hy])) s1
  refine ⟨h1,fun a ha=>?_⟩
  rcases h2 a ha with h | ⟨b,h⟩
  ·rcases s2 a h with h | ⟨b,h⟩
   ·exact .inl h
   ·exact .inr ⟨b,by simp [h]⟩
  ·exact .inr ⟨b,by simp [h]⟩
theorem okQ.ok64{p:PL}(h:okQ p):ok64 p:=fun x hx b hb=>(h x hx).2 b hb
theorem okQ.snoc{p:PL}(h:okQ p){a:Int}(ha:inR a)(o:Option (List Int))(ho:∀ b,o=some b->b.length=64):okQ (p++[(a,o)]):=by
 intro x hx
 rcases List.mem_append.1 hx with hx | hx
 ·exact h x hx
 ·simp at hx;subst hx;exact ⟨ha,ho⟩
theorem okM.keys{m:ML}(h:okM m)(hl:m.length<=1000000):keysOk (Zm m):=by
 refine ⟨?_,?_,by simpa [Zm] using hl⟩
 ·rw [show (Zm m).map (·.1)=Zn m from mapE_fst m]
  have:∀ l:List Int,l.Pairwise (· < ·)->ascB l=true:=by
   intro l
   induction l with
   | nil=>intro _;rfl
   | cons a l ih =>
    intro h;obtain ⟨h1,h2⟩:=List.pairwise_cons.1 h
    cases l with
    | nil=>rfl
    | cons b l =>
     simp only [ascB,Bool.and_eq_true,decide_eq_true_eq];exact ⟨h1 b (by simp),ih h2⟩
  exact this _ h.1
 ·intro x hx
  simp only [Zm,List.mem_map] at hx;obtain ⟨y,hy,rfl⟩:=hx;obtain ⟨⟨h1,h2⟩,_⟩:=h.2 y hy;simp only;omega
theorem needs_of(m:ML)(h:Asc m):(Zl m []).length=m.length:=by
 have h1:(Zn m).Nodup:=h.imp (fun h=>by omega)
 have h2:m.length=(Zn m).length:=by simp [Zn]
 rw [needs_length,h2];refine Nat.le_antisymm (sub_len (needs_nodup m []) fun a ha=>?_) (sub_len h1 fun a ha=>?_)
 ·rw [Xk] at ha;simpa using ha
 ·rw [Xk];exact .inl ha
end Go.Mac.Nd
namespace Go.Mac
open Go Go.Eng Go.Proofs Go.Mac.Nd
open Go.IntKind (i64)
open Go.Proofs.Try (prog)
set_option maxRecDepth 100000
theorem okQ.nil:okQ []:=by intro x h;exact nomatch h
theorem blk64{b:List Int}(h:b.length=64):blk b=b:=by
 rw [<- blk_padS];rw [List.take_append_of_le_length (by omega),List.take_of_length_le (by omega)]
theorem splice_blk{b:List Int}(h:b.length<=64):Z6 (List.replicate 64 0) 0 b=blk b:=by
 unfold blk;rw [Nat.min_eq_left h,List.take_of_length_le (Nat.le_refl _)]
theorem write_any(rm:Int)(m:ML)(p:PL)(hp:p.length<=10000)(ho:okQ p)(a:Int)(ha:inR a)(b:List Int)(hb:b.length<=64):
  (∃ u:Nat,(Zl m (p++[(a,some (blk b))])).length=u/\(u:Int)<=max rm (Zl m p).length/\(a∈Zx (Zl m p)∨((Zl m p).length:Int)<rm)/\∀ k,Zd prog C0 (Z3 prog C0 (k+20)) (k+20) 20 [.ptr 0 0,.int .i64 a,.isl 1 (bys b)] ⟨1,[(0,dO rm m p)]⟩=some (.nili,⟨1,[(0,dO rm m (p++[(a,some (blk b))]))]⟩)) ∨
  (a∉Zx (Zl m p)/\rm<=(Zl m p).length/\∀ k,Zd prog C0 (Z3 prog C0 (k+20)) (k+20) 20 [.ptr 0 0,.int .i64 a,.isl 1 (bys b)] ⟨1,[(0,dO rm m p)]⟩=some (flt [98,108,111,99,107] a 7,⟨1,[(0,dO rm m p)]⟩)):=by
 by_cases hm:a∈Zx (Zl m p)
 ·obtain ⟨c,h1,h2⟩:=needs_at m p a hm
  refine .inl ⟨_,rfl,?_,.inl hm,fun k=>?_⟩
  ·rw [needs_same m p a _ hm];omega
  ·rw [<- splice_blk hb];exact write_old k a b rm m p ha.1 ha.2 hb (by omega) ho.ok64.okP c h1 h2
 ·by_cases hr:((Zl m p).length:Int)<rm
  ·refine .inl ⟨_,rfl,?_,.inr hr,fun k=>?_⟩
   ·have:=needs_more m p a (blk b);omega
   ·rw [<- splice_blk hb];exact write_new k a b rm m p ha.1 ha.2 hb (by omega) ho.ok64.okP ((needs_none _ _).2 hm) hr
  ·exact .inr ⟨hm,by omega,fun k=>write_full k a b rm m p ha.1 ha.2 hb (by omega) ho.ok64.okP ((needs_none _ _).2 hm) (by omega)⟩
theorem sync_needs(m:ML)(p:PL):(Zl (Yn p m) []).length<=(Zl m p).length:=needs_le _ _ _ _ fun a ha=>by
 rw [Xk] at ha ⊢
 rcases ha with h | ⟨b,h⟩
 ·exact apply_mem h
 ·simp at h
theorem crash_needs(m:ML)(p:PL)(hp:okQ p)(hm:okM m)(ks:List Int)(cut:Int):(Zl (Xf m p ks cut) []).length<=(Zl m p).length:=needs_le _ _ _ _ fun a ha=>by
 rw [Xk] at ha ⊢
 rcases ha with h | ⟨b,h⟩
 ·exact (crashM_ok ks cut _ p 0 m hp hm).2 a h
 ·simp at h
theorem putP_okQ{st nx:Int}{b:List Int}{p:PL}(h:okQ p)(h0:0<=nx):∀ (j:Nat),nx+j<=1073741824->okQ (putP st nx b p j)
 | 0,_=>h
 | j+1,hj=>(putP_okQ h h0 j (by omega)).snoc ⟨by omega,by omega⟩ _ fun c hc=>by injection hc with hc;subst hc;exact putX_length st b j
theorem putP_needs(m:ML)(st nx:Int)(b:List Int)(p:PL):∀ (j:Nat),(Zl m (putP st nx b p j)).length<=(Zl m p).length+j
 | 0=>Nat.le_refl _
 | j+1=>by
  have h1:=putP_needs m st nx b p j;have h2:=needs_more m (putP st nx b p j) (nx+(j:Int)) (putX st b j);rw [putP];omega
theorem put_any(n:Nat)(base nx st rm:Int)(m:ML)(p:PL)(b:List Int)(hb:b.length<=3000)(hp:p.length<=9000)(hq:okQ p)(hu:(Zl m p).length<=4000)(hrm:rm<=4000)(h0:0<=nx)(h1:nx<=900000)(hs:0<=st)(hs2:st<=90000)(hok:((Zl m p).length:Int)+Zo b.length<=rm)(hn:100<n+60):
  Zd prog C0 (Z3 prog C0 (n+60)) (n+60) 56 [.ptr 0 0,.isl 1 (bys b)] ⟨2,[(0,chO base nx st),(1,dO rm m p)]⟩=some (.tup [.int .i64 nx,.nili],⟨2,[(0,chO base (nx+(Zo b.length:Int)) (st+(Zo b.length:Int))),(1,dO rm m (putP st nx b p (Zo b.length)))]⟩):=by
 have hN:=blksN_pos b.length;have hN2:=blksN_le b.length hb;refine put_thru n base nx st (st+(Zo b.length:Int)) rm (Zl m p).length (Zo b.length) m p _ b hb (by omega) (by omega) (by omega) (by omega) hrm h0 (by omega) hok (fun i=>blocks_nat i b hb) (fun i=>used_ok i rm m p (by omega) hq.ok64.okP) ?_
 have L:=put_loop n base nx st rm (Zo b.length) m p b hb hN hN2 h0 (by omega) hs hs2 (fun j hj i=>?_) (Zo b.length) 0 (n+60) (by omega) (by omega)
 ·simpa [hdJ,putP] using L
 ·have hl:=putP_length st nx b p j
  have hnd:=putP_needs m st nx b p j
  rcases write_any rm m (putP st nx b p j) (by omega) (putP_okQ hq h0 j (by omega)) (nx+(j:Int)) ⟨by omega,by omega⟩ (putX st b j) (by rw [putX_length];omega) with ⟨u,_,_,_,W⟩ | ⟨_,h,_⟩
  ·rw [W i,blk64 (putX_length st b j)];rfl
  ·omega
set_option maxHeartbeats 0
abbrev cuE(old i:Int):LEnv:=[.ptr 0 0,.any,.any,.any,.any,.any,.int i64 old,.int i64 i,.any,.any,.any,.any,.any,.any,.any,.any,.any,.any,.any,.any,.any,.any,.any,.any,.any,.any,.any,.any,.any,.any,.any,.any,.any,.any,.any,.any,.any,.any,.any,.any,.any,.any,.any,.any,.any,.any,.any,.any,.any,.any,.any,.any,.any,.any,.any,.any,.any,.any,.any,.any,.any,.any,.any,.any,.any,.any,.any,.any,.any,.any,.any,.any,.any,.any,.any,.any,.any,.any,.any,.any,.any,.any,.any,.any,.any,.any]
abbrev cuX:LEnv:=[.ptr 0 0,.any,.any,.any,.any,.any,.any,.any,.any,.any,.any,.any,.any,.any,.any,.any,.any,.any,.any,.any,.any,.any,.any,.any,.any,.any,.any,.any,.any,.any,.any,.any,.any,.any,.any,.any,.any,.any,.any,.any,.any,.any,.any,.any,.any,.any,.any,.any,.any,.any,.any,.any,.any,.any,.any,.any,.any,.any,.any,.any,.any,.any,.any,.any,.any,.any,.any,.any,.any,.any,.any,.any,.any,.any,.any,.any,.any,.any,.any,.any,.any,.any,.any,.any,.any,.any]
theorem cu_step(n fu:Nat)(base nx st rm old i:Int)(m:ML)(p p':PL)(h0:0<=i)(h1:old<=100000)(hi:i<old)(W:∀ k,Zd prog C0 (Z3 prog C0 (k+20)) (k+20) 58 [.ptr 0 0,.int .i64 i] ⟨1,[(0,dO rm m p)]⟩=some (.nili,⟨1,[(0,dO rm m p')]⟩))(r:LX × LEnv × St)(hr:Z2 prog C0 (n+60) 31 0 2 fu (cuE old (i+1)) ⟨2,[(0,chO base nx st),(1,dO rm m p')]⟩=some r):
  Z2 prog C0 (n+60) 31 0 2 (fu+1) (cuE old i) ⟨2,[(0,chO base nx st),(1,dO rm m p)]⟩=some r:=by
 have f1:decide (i<old)=true:=by simp;omega
 have f2:=W (n+39);have f3:LV.int i64 (IntKind.wrap i64 (i+1))=LV.int i64 (i+1):=by simp (disch:=omega)
 have f4:=hr;exact dlp (fun h=>ai (congrArg LV.bool f1)<|ai (f2)<|ai (f3)<|ai (Eq.refl (Zc f4))<|ai (f4)<|h) (.i (.s (.s (.a) (.b true (.a))) (.s (.k (.s (.r [.a,.a,.a,.a,.a,.f (rOf f2)]) (.a))) (.r [.a,.v (vOf f3) (.a)]))) (.h [] (eOf f4) (Y2 f4) (rOf f4))) (by kernel_rfl)
theorem cu_end(n fu:Nat)(base nx st rm old:Int)(m:ML)(p:PL):
  Z2 prog C0 (n+60) 31 0 2 (fu+1) (cuE old old) ⟨2,[(0,chO base nx st),(1,dO rm m p)]⟩=some (.exit 0,cuX,⟨2,[(0,chO base nx st),(1,dO rm m p)]⟩):=by
 have f1:decide (old<old)=false:=by simp
 exact dlp (fun h=>ai (congrArg LV.bool f1)<|h) (.i (.s (.s (.a) (.b false (.a))) .a) (.a)) (by kernel_rfl)
theorem zq8_6(a0:Int)(a1:PL)(q0:Nat)(q1:Nat):LObj.box 77 [.int i64 a0,.map q0,.sl 2 q1 0 (List.length (Zg a1)) none]=LObj.box 77 [.int i64 a0,.map q0,.sl 2 q1 0 (List.length a1) none]:=by simp
theorem zq8_7(a0:Int)(a1:ML)(a2:PL):LObj.box 77 [.int i64 a0,.omap i64 (List.map (·.1) (Zm a1)) (List.map (·.2) (Zm a1)),.own 88 2 (Zg a2)]=LObj.box 77 [.int i64 a0,.omap i64 (Zn a1) (Xl a1),.own 88 2 (Zg a2)]:=by simp
theorem cut_thru(n:Nat)(base nx st rm at_:Int)(m m':ML)(p p' p2:PL)(h0:0<=at_)(h1:nx<=100000)(hb:base<=at_)(ha:at_<nx)(s0:0<=st)(s1:st<=90000)(b:List Int)(F:∀ k,Zd prog C0 (Z3 prog C0 (k+40)) (k+40) 57 [.int .i64 st,.int .i64 32768,.nils] ⟨0,[]⟩=some (.isl 1 (bys b),⟨0,[]⟩))(W:∀ k,Zd prog C0 (Z3 prog C0 (k+20)) (k+20) 20 [.ptr 0 0,.int .i64 at_,.isl 1 (bys b)] ⟨1,[(0,dO rm m p)]⟩=some (.nili,⟨1,[(0,dO rm m p')]⟩))(L:Z2 prog C0 (n+60) 31 0 2 (n+60) (cuE nx (at_+1)) ⟨2,[(0,chO base (at_+1) (st+1)),(1,dO rm m p')]⟩=some (.exit 0,cuX,⟨2,[(0,chO base (at_+1) (st+1)),(1,dO rm m p2)]⟩))(S:∀ k,p2.length<=k->Zd prog C0 (Z3 prog C0 (k+41)) (k+41) 22 [.ptr 0 0] ⟨1,[(0,dO rm m p2)]⟩=some (.tup [],⟨1,[(0,dO rm m' [])]⟩))(hn:p2.length<=n):
  Zd prog C0 (Z3 prog C0 (n+60)) (n+60) 31 [.ptr 0 0,.int .i64 at_] ⟨2,[(0,chO base nx st),(1,dO rm m p)]⟩=some (.nili,⟨2,[(0,chO base (at_+1) (st+1)),(1,dO rm m' [])]⟩):=by
 have f1:decide (at_<base)=false:=by simp;omega
 have f2:LV.bool (if decide (at_<base)=true then true else decide (nx<at_))=LV.bool false:=by simp;omega
 have f3:decide (at_=nx)=false:=by simp;omega
 have f4:LV.bool (decide (at_<base))=LV.bool false:=by simp;omega
 have f5:LV.bool (decide (nx<at_))=LV.bool false:=by simp;omega
 have f6:LV.bool (decide (at_=nx))=LV.bool false:=by simp;omega
 have f7:=zq8_5 m;have f8:=zq8_6 rm p 2 3;have f9:=F (n+19);have f10:List.length (Zg p)=List.length p:=by simp
 have f11:=zq8_7 rm m p;have f12:=W (n+39);have f13:LV.int i64 (IntKind.wrap i64 (at_+1))=LV.int i64 (at_+1):=by simp (disch:=omega)
 have f14:LV.int i64 (IntKind.wrap i64 (st+1))=LV.int i64 (st+1):=by simp (disch:=omega)
 have f15:=L
 have f16:=S (n+18) (by omega)
 exact drn (fun h=>ai (congrArg some f1)<|ai (congrArg some f1)<|ai (congrArg some f1)<|ai (congrArg some f1)<|ai (congrArg some f1)<|ai (congrArg some f1)<|ai (f2)<|ai (congrArg LV.bool f3)<|ai (f4)<|ai (f4)<|ai (f5)<|ai (f6)<|ai (congrArg some f7)<|ai (congrArg some f8)<|ai (f9)<|ai (f10)<|ai (congrArg some f11)<|ai (f12)<|ai (f13)<|ai (f14)<|ai (f13)<|ai (Eq.refl (Zc f15))<|ai (f15)<|ai (f16)<|h) (.s (.a) (.s (.s (.r [.a,.a,.a,.a,.a,.a,.a,.g false (.a),.g false (.a),.g false (.a),.g false (.a),.g false (.a),.g false (.a),.v (vOf f2) (.a)]) (.a)) (.s (.s (.a) (.b false (.a))) (.s (.s (.d [.y 14 (vOf f4),.y 15 (vOf f4),.y 21 (vOf f5),.y 30 (vOf f6),.x 2 (vOf f7),.x 1 (vOf f8)] [.a,.a,.a,.a,.a,.a,.a,.a,.a,.f (rOf f9)] [] [.fr .q [.x 1 (vOf f11)] (rOf f12)]) (.a)) (.s (.a) (.s (.r [.a,.a,.v (vOf f13) (.a)]) (.s (.r [.a,.a,.a,.a,.v (vOf f14) (.a)]) (.s (.s (.r [.a,.v (vOf f13) (.a)]) (.k (.l (.h [] (eOf f15) (Y2 f15) (rOf f15))))) (.s (.r [.a,.a,.a,.a,.f (rOf f16)]) (.a)))))))))) [] .a (by kernel_rfl)
theorem csync_ok(n:Nat)(base nx st rm:Int)(m m':ML)(p:PL)(S:∀ k,p.length<=k->Zd prog C0 (Z3 prog C0 (k+41)) (k+41) 22 [.ptr 0 0] ⟨1,[(0,dO rm m p)]⟩=some (.tup [],⟨1,[(0,dO rm m' [])]⟩))(hn:p.length<=n):
  Zd prog C0 (Z3 prog C0 (n+60)) (n+60) 27 [.ptr 0 0] ⟨2,[(0,chO base nx st),(1,dO rm m p)]⟩=some (.tup [],⟨2,[(0,chO base nx st),(1,dO rm m' [])]⟩):=by
 have f1:=S (n+18) (by omega)
 exact drn (fun h=>ai (f1)<|h) (.r [.a,.a,.a,.a,.f (rOf f1)]) [] .a (by kernel_rfl)
theorem append_lim(n:Nat)(base nx st rm:Int)(m:ML)(p:PL):
  Zd prog C0 (Z3 prog C0 (n+60)) (n+60) 29 [.ptr 0 0,.isl 1 (bys [])] ⟨2,[(0,chO base nx st),(1,dO rm m p)]⟩=some (.tup [.int .i64 0,.ifc 115 (.agg [.str [114,101,99,111,114,100],.int .i64 0,.ifc 71 (.int .i64 6)])],⟨2,[(0,chO base nx st),(1,dO rm m p)]⟩):=by
 exact drn (fun h=>h) (.a) [] .a (by kernel_rfl)
theorem fill_nil(n:Nat)(t h:Int)(h0:0<=t)(h1:t<=1000000):Zd prog C0 (Z3 prog C0 (n+40)) (n+40) 57 [.int .i64 t,.int .i64 h,.nils] ⟨0,[]⟩=some (.isl 1 (bys (X1 t h [])),⟨0,[]⟩):=by
 have hL:=Xv t h [] (by simp)
 have E:=fill_eq t h [];have hT:(bys (X1 t h [])).take 64=bys (X1 t h []):=List.take_of_length_le (by rw [bys_length,Xv t h [] (by simp)];omega)
 have f1:=digits_ok (n+19) t h0 h1;have f2:LObj.row 5 1 (Z7 (List.replicate 64 (LV.int IntKind.u8 0)) 0 (List.take 8 (List.take 8 (List.drop 0 [.int IntKind.u8 (u8 (Int.fdiv (Int.fdiv (Int.fdiv (Int.fdiv (Int.fdiv (Int.fdiv (Int.fdiv t 256) 256) 256) 256) 256) 256) 256)),.int IntKind.u8 (u8 (Int.fdiv (Int.fdiv (Int.fdiv (Int.fdiv (Int.fdiv (Int.fdiv t 256) 256) 256) 256) 256) 256)),.int IntKind.u8 (u8 (Int.fdiv (Int.fdiv (Int.fdiv (Int.fdiv (Int.fdiv t 256) 256) 256) 256) 256)),.int IntKind.u8 (u8 (Int.fdiv (Int.fdiv (Int.fdiv (Int.fdiv t 256) 256) 256) 256)),.int IntKind.u8 (u8 (Int.fdiv (Int.fdiv (Int.fdiv t 256) 256) 256)),.int IntKind.u8 (u8 (Int.fdiv (Int.fdiv t 256) 256)),.int IntKind.u8 (u8 (Int.fdiv t 256)),.int IntKind.u8 (u8 t)]))))=LObj.row 5 1 (Z7 (bys (List.replicate 64 0)) 0 [.int IntKind.u8 (u8 (Int.fdiv (Int.fdiv (Int.fdiv (Int.fdiv (Int.fdiv (Int.fdiv (Int.fdiv t 256) 256) 256) 256) 256) 256) 256)),.int IntKind.u8 (u8 (Int.fdiv (Int.fdiv (Int.fdiv (Int.fdiv (Int.fdiv (Int.fdiv t 256) 256) 256) 256) 256) 256)),.int IntKind.u8 (u8 (Int.fdiv (Int.fdiv (Int.fdiv (Int.fdiv (Int.fdiv t 256) 256) 256) 256) 256)),.int IntKind.u8 (u8 (Int.fdiv (Int.fdiv (Int.fdiv (Int.fdiv t 256) 256) 256) 256)),.int IntKind.u8 (u8 (Int.fdiv (Int.fdiv (Int.fdiv t 256) 256) 256)),.int IntKind.u8 (u8 (Int.fdiv (Int.fdiv t 256) 256)),.int IntKind.u8 (u8 (Int.fdiv t 256)),.int IntKind.u8 (u8 t)]):=by simp
 have f3:LObj.row 5 1 (Z7 (Z7 (List.set (List.set (Z7 (bys (List.replicate 64 0)) 0 [.int IntKind.u8 (u8 (Int.fdiv (Int.fdiv (Int.fdiv (Int.fdiv (Int.fdiv (Int.fdiv (Int.fdiv t 256) 256) 256) 256) 256) 256) 256)),.int IntKind.u8 (u8 (Int.fdiv (Int.fdiv (Int.fdiv (Int.fdiv (Int.fdiv (Int.fdiv t 256) 256) 256) 256) 256) 256)),.int IntKind.u8 (u8 (Int.fdiv (Int.fdiv (Int.fdiv (Int.fdiv (Int.fdiv t 256) 256) 256) 256) 256)),.int IntKind.u8 (u8 (Int.fdiv (Int.fdiv (Int.fdiv (Int.fdiv t 256) 256) 256) 256)),.int IntKind.u8 (u8 (Int.fdiv (Int.fdiv (Int.fdiv t 256) 256) 256)),.int IntKind.u8 (u8 (Int.fdiv (Int.fdiv t 256) 256)),.int IntKind.u8 (u8 (Int.fdiv t 256)),.int IntKind.u8 (u8 t)]) 8 (LV.int IntKind.u8 (IntKind.wrap IntKind.u8 (Int.fdiv h 256)))) 9 (LV.int IntKind.u8 (IntKind.wrap IntKind.u8 h))) 10 []) 56 (List.take 8 (List.take 8 (List.drop 0 [.int IntKind.u8 (u8 (Int.fdiv (Int.fdiv (Int.fdiv (Int.fdiv (Int.fdiv (Int.fdiv (Int.fdiv t 256) 256) 256) 256) 256) 256) 256)),.int IntKind.u8 (u8 (Int.fdiv (Int.fdiv (Int.fdiv (Int.fdiv (Int.fdiv (Int.fdiv t 256) 256) 256) 256) 256) 256)),.int IntKind.u8 (u8 (Int.fdiv (Int.fdiv (Int.fdiv (Int.fdiv (Int.fdiv t 256) 256) 256) 256) 256)),.int IntKind.u8 (u8 (Int.fdiv (Int.fdiv (Int.fdiv (Int.fdiv t 256) 256) 256) 256)),.int IntKind.u8 (u8 (Int.fdiv (Int.fdiv (Int.fdiv t 256) 256) 256)),.int IntKind.u8 (u8 (Int.fdiv (Int.fdiv t 256) 256)),.int IntKind.u8 (u8 (Int.fdiv t 256)),.int IntKind.u8 (u8 t)]))))=LObj.row 5 1 (Z7 (Z7 (List.set (List.set (Z7 (bys (List.replicate 64 0)) 0 [.int IntKind.u8 (u8 (Int.fdiv (Int.fdiv (Int.fdiv (Int.fdiv (Int.fdiv (Int.fdiv (Int.fdiv t 256) 256) 256) 256) 256) 256) 256)),.int IntKind.u8 (u8 (Int.fdiv (Int.fdiv (Int.fdiv (Int.fdiv (Int.fdiv (Int.fdiv t 256) 256) 256) 256) 256) 256)),.int IntKind.u8 (u8 (Int.fdiv (Int.fdiv (Int.fdiv (Int.fdiv (Int.fdiv t 256) 256) 256) 256) 256)),.int IntKind.u8 (u8 (Int.fdiv (Int.fdiv (Int.fdiv (Int.fdiv t 256) 256) 256) 256)),.int IntKind.u8 (u8 (Int.fdiv (Int.fdiv (Int.fdiv t 256) 256) 256)),.int IntKind.u8 (u8 (Int.fdiv (Int.fdiv t 256) 256)),.int IntKind.u8 (u8 (Int.fdiv t 256)),.int IntKind.u8 (u8 t)]) 8 (LV.int IntKind.u8 (IntKind.wrap IntKind.u8 (Int.fdiv h 256)))) 9 (LV.int IntKind.u8 (IntKind.wrap IntKind.u8 h))) 10 []) 56 [.int IntKind.u8 (u8 (Int.fdiv (Int.fdiv (Int.fdiv (Int.fdiv (Int.fdiv (Int.fdiv (Int.fdiv t 256) 256) 256) 256) 256) 256) 256)),.int IntKind.u8 (u8 (Int.fdiv (Int.fdiv (Int.fdiv (Int.fdiv (Int.fdiv (Int.fdiv t 256) 256) 256) 256) 256) 256)),.int IntKind.u8 (u8 (Int.fdiv (Int.fdiv (Int.fdiv (Int.fdiv (Int.fdiv t 256) 256) 256) 256) 256)),.int IntKind.u8 (u8 (Int.fdiv (Int.fdiv (Int.fdiv (Int.fdiv t 256) 256) 256) 256)),.int IntKind.u8 (u8 (Int.fdiv (Int.fdiv (Int.fdiv t 256) 256) 256)),.int IntKind.u8 (u8 (Int.fdiv (Int.fdiv t 256) 256)),.int IntKind.u8 (u8 (Int.fdiv t 256)),.int IntKind.u8 (u8 t)]):=by simp
 have f4:LV.isl 1 (List.take 64 (List.drop 0 (Z7 (Z7 (List.set (List.set (Z7 (bys (List.replicate 64 0)) 0 [.int IntKind.u8 (u8 (Int.fdiv (Int.fdiv (Int.fdiv (Int.fdiv (Int.fdiv (Int.fdiv (Int.fdiv t 256) 256) 256) 256) 256) 256) 256)),.int IntKind.u8 (u8 (Int.fdiv (Int.fdiv (Int.fdiv (Int.fdiv (Int.fdiv (Int.fdiv t 256) 256) 256) 256) 256) 256)),.int IntKind.u8 (u8 (Int.fdiv (Int.fdiv (Int.fdiv (Int.fdiv (Int.fdiv t 256) 256) 256) 256) 256)),.int IntKind.u8 (u8 (Int.fdiv (Int.fdiv (Int.fdiv (Int.fdiv t 256) 256) 256) 256)),.int IntKind.u8 (u8 (Int.fdiv (Int.fdiv (Int.fdiv t 256) 256) 256)),.int IntKind.u8 (u8 (Int.fdiv (Int.fdiv t 256) 256)),.int IntKind.u8 (u8 (Int.fdiv t 256)),.int IntKind.u8 (u8 t)]) 8 (LV.int IntKind.u8 (IntKind.wrap IntKind.u8 (Int.fdiv h 256)))) 9 (LV.int IntKind.u8 (IntKind.wrap IntKind.u8 h))) 10 []) 56 [.int IntKind.u8 (u8 (Int.fdiv (Int.fdiv (Int.fdiv (Int.fdiv (Int.fdiv (Int.fdiv (Int.fdiv t 256) 256) 256) 256) 256) 256) 256)),.int IntKind.u8 (u8 (Int.fdiv (Int.fdiv (Int.fdiv (Int.fdiv (Int.fdiv (Int.fdiv t 256) 256) 256) 256) 256) 256)),.int IntKind.u8 (u8 (Int.fdiv (Int.fdiv (Int.fdiv (Int.fdiv (Int.fdiv t 256) 256) 256) 256) 256)),.int IntKind.u8 (u8 (Int.fdiv (Int.fdiv (Int.fdiv (Int.fdiv t 256) 256) 256) 256)),.int IntKind.u8 (u8 (Int.fdiv (Int.fdiv (Int.fdiv t 256) 256) 256)),.int IntKind.u8 (u8 (Int.fdiv (Int.fdiv t 256) 256)),.int IntKind.u8 (u8 (Int.fdiv t 256)),.int IntKind.u8 (u8 t)])))=LV.isl 1 (List.take 64 (Z7 (Z7 (List.set (List.set (Z7 (bys (List.replicate 64 0)) 0 [.int IntKind.u8 (u8 (Int.fdiv (Int.fdiv (Int.fdiv (Int.fdiv (Int.fdiv (Int.fdiv (Int.fdiv t 256) 256) 256) 256) 256) 256) 256)),.int IntKind.u8 (u8 (Int.fdiv (Int.fdiv (Int.fdiv (Int.fdiv (Int.fdiv (Int.fdiv t 256) 256) 256) 256) 256) 256)),.int IntKind.u8 (u8 (Int.fdiv (Int.fdiv (Int.fdiv (Int.fdiv (Int.fdiv t 256) 256) 256) 256) 256)),.int IntKind.u8 (u8 (Int.fdiv (Int.fdiv (Int.fdiv (Int.fdiv t 256) 256) 256) 256)),.int IntKind.u8 (u8 (Int.fdiv (Int.fdiv (Int.fdiv t 256) 256) 256)),.int IntKind.u8 (u8 (Int.fdiv (Int.fdiv t 256) 256)),.int IntKind.u8 (u8 (Int.fdiv t 256)),.int IntKind.u8 (u8 t)]) 8 (LV.int IntKind.u8 (IntKind.wrap IntKind.u8 (Int.fdiv h 256)))) 9 (LV.int IntKind.u8 (IntKind.wrap IntKind.u8 h))) 10 []) 56 [.int IntKind.u8 (u8 (Int.fdiv (Int.fdiv (Int.fdiv (Int.fdiv (Int.fdiv (Int.fdiv (Int.fdiv t 256) 256) 256) 256) 256) 256) 256)),.int IntKind.u8 (u8 (Int.fdiv (Int.fdiv (Int.fdiv (Int.fdiv (Int.fdiv (Int.fdiv t 256) 256) 256) 256) 256) 256)),.int IntKind.u8 (u8 (Int.fdiv (Int.fdiv (Int.fdiv (Int.fdiv (Int.fdiv t 256) 256) 256) 256) 256)),.int IntKind.u8 (u8 (Int.fdiv (Int.fdiv (Int.fdiv (Int.fdiv t 256) 256) 256) 256)),.int IntKind.u8 (u8 (Int.fdiv (Int.fdiv (Int.fdiv t 256) 256) 256)),.int IntKind.u8 (u8 (Int.fdiv (Int.fdiv t 256) 256)),.int IntKind.u8 (u8 (Int.fdiv t 256)),.int IntKind.u8 (u8 t)])):=by simp
 exact drn (fun h=>ai (f1)<|ai (congrArg some f2)<|ai (congrArg some f3)<|ai (f4)<|h) (.s (.a) (.s (.a) (.s (.r [.a,.f (rOf f1)]) (.s (.a) (.s (.r [.a,.a,.a,.a,.a,.z [.x 0 (vOf f2)] (.a)]) (.s (.r []) (.s (.d [] [.a,.a,.a] [] [.x 0 (vOf f3) (.a)]) (.s (.r []) (.a))))))))) [.y 0 (vOf f4)] .a (by kernel_rfl)
end Go.Mac
namespace Go.Mac
open Go Go.Eng Go.Proofs
open Go.IntKind (i64)
open Go.Proofs.Try (prog)
set_option maxHeartbeats 0
set_option maxRecDepth 100000
structure Act5 where
 kind:Int
 at_:Int
 b:List Int
 keep:List Int
 cut:Int
def op5(x:Act5):LV:=.agg [.int .i64 x.kind,.int .i64 x.at_,.isl 1 (bys x.b),.isl 1 (ints x.keep),.int .i64 x.cut]
def Zf(l:List Act5):List LV:=l.map op5
@[simp] theorem ops5_length(l:List Act5):(Zf l).length=l.length:=by simp [Zf]
theorem ops5_at{l:List Act5}{i:Nat}{x:Act5}(h:l[i]? = some x):(Zf l)[i]? = some (.agg [.int .i64 x.kind,.int .i64 x.at_,.isl 1 (bys x.b),.isl 1 (ints x.keep),.int .i64 x.cut]):=by
 simp [Zf,op5,h]
abbrev ljE(l:List Act5)(c i:Int):LEnv:=[.isl 5 (Zf l),.any,.any,.int .i64 c,.int .i64 i,.any,.any,.any,.any,.any,.any,.any,.any,.any,.any,.any,.any,.any,.any,.any,.any,.any,.any,.any,.any,.any,.any,.any,.any,.any,.any,.any,.any]
abbrev ljX:LEnv:=[.any,.any,.any,.any,.any,.any,.any,.any,.any,.any,.any,.any,.any,.any,.any,.any,.any,.any,.any,.any,.any,.any,.any,.any,.any,.any,.any,.any,.any,.any,.any,.any,.any]
abbrev ljB:LEnv:=[.any,.any,.bool false,.any,.any,.any,.any,.any,.any,.any,.any,.any,.any,.any,.any,.any,.any,.any,.any,.any,.any,.any,.any,.any,.any,.any,.any,.any,.any,.any,.any,.any,.any]
theorem zq8_8(a0:List Act5):decide ((a0.length:Int)<((Zf a0).length:Int))=false:=by simp
theorem lj_end(n fu:Nat)(l:List Act5)(c:Int):Z2 prog C0 (n+20) 24 0 0 (fu+1) (ljE l c l.length) ⟨0,[]⟩=some (.exit 0,ljX,⟨0,[]⟩):=by
 have f1:=zq8_8 l;exact dlp (fun h=>ai (congrArg LV.bool f1)<|h) (.i (.s (.s (.a) (.b false (.a))) .a) (.a)) (by kernel_rfl)
theorem lj_step(n fu:Nat)(l:List Act5)(hl:l.length<=60)(c i:Int)(c0:0<=c)(c1:c<=3000)(h0:0<=i)(hi:i<(l.length:Int))(k a u:Int)(b ks:List Int)(hx:(Zf l)[i.toNat]? = some (.agg [.int .i64 k,.int .i64 a,.isl 1 (bys b),.isl 1 (ints ks),.int .i64 u]))(hb:b.length<=1000000000000000)(hks:ks.length<=60)(h:c+b.length<=3000)(r:LX × LEnv × St)(hr:Z2 prog C0 (n+20) 24 0 0 fu (ljE l (c+b.length) (i+1)) ⟨0,[]⟩=some r):
  Z2 prog C0 (n+20) 24 0 0 (fu+1) (ljE l c i) ⟨0,[]⟩=some r:=by
 have f1:decide (i<((Zf l).length:Int))=true:=by simp;omega
 have f2:(Zf l)[i.toNat]? = some (LV.agg [.int i64 k,.int i64 a,.isl 1 (bys b),.isl 1 (ints ks),.int i64 u]):=hx;have f3:0<=i/\i<((Zf l).length:Int):=by simp;omega
 have f4:LV.int i64 (IntKind.wrap i64 (c+((bys b).length:Int)))=LV.int i64 (c+(b.length:Int)):=by simp (disch:=omega)
 have f5:decide (60<((ints ks).length:Int))=false:=by simp;omega
 have f6:LV.bool (if decide (60<((ints ks).length:Int))=true then true else decide (3000<c+(b.length:Int)))=LV.bool false:=by simp;omega
 have f7:LV.int i64 (IntKind.wrap i64 (i+1))=LV.int i64 (i+1):=by simp (disch:=omega)
 have f8:=hr;exact dlp (fun h=>ai (congrArg LV.bool f1)<|ai (f3)<|ai (f2)<|ai (f4)<|ai (f3)<|ai (f2)<|ai (congrArg some f5)<|ai (congrArg some f5)<|ai (f6)<|ai (f7)<|ai (Eq.refl (Zc f8))<|ai (f8)<|h) (.i (.s (.s (.a) (.b true (.a))) (.s (.k (.s (.r [.a,.a,.a,.e (rOf f2),.a,.a,.a,.v (vOf f4) (.a)]) (.s (.r [.a,.a,.e (rOf f2),.a,.a,.a,.a,.a,.g false (.a),.g false (.a),.v (vOf f6) (.a)]) (.a)))) (.r [.a,.v (vOf f7) (.a)]))) (.h [] (eOf f8) (Y2 f8) (rOf f8))) (by kernel_rfl)
theorem lj_bad1(n fu:Nat)(l:List Act5)(hl:l.length<=60)(c i:Int)(c0:0<=c)(c1:c<=3000)(h0:0<=i)(hi:i<(l.length:Int))(k a u:Int)(b ks:List Int)(hx:(Zf l)[i.toNat]? = some (.agg [.int .i64 k,.int .i64 a,.isl 1 (bys b),.isl 1 (ints ks),.int .i64 u]))(hb:b.length<=1000000000000000)(hks:60<ks.length):Z2 prog C0 (n+20) 24 0 0 (fu+1) (ljE l c i) ⟨0,[]⟩=some (.ret,ljB,⟨0,[]⟩):=by
 have f1:decide (i<((Zf l).length:Int))=true:=by simp;omega
 have f2:(Zf l)[i.toNat]? = some (LV.agg [.int i64 k,.int i64 a,.isl 1 (bys b),.isl 1 (ints ks),.int i64 u]):=hx;have f3:0<=i/\i<((Zf l).length:Int):=by simp;omega
 have f4:LV.int i64 (IntKind.wrap i64 (c+((bys b).length:Int)))=LV.int i64 (c+(b.length:Int)):=by simp (disch:=omega)
 have f5:decide (60<((ints ks).length:Int))=true:=by simp;omega
 have f6:Wa (decide (60<((ints ks).length:Int))) (LV.bool true) LV.any=some (LV.bool true):=by simp;omega
 exact dlp (fun h=>ai (congrArg LV.bool f1)<|ai (f3)<|ai (f2)<|ai (f4)<|ai (f3)<|ai (f2)<|ai (congrArg some f5)<|ai (congrArg some f5)<|ai (Yp (st:=(St.mk 0 [])) f6)<|h) (.i (.s (.s (.a) (.b true (.a))) (.s (.k (.s (.r [.a,.a,.a,.e (rOf f2),.a,.a,.a,.v (vOf f4) (.a)]) (.s (.r [.a,.a,.e (rOf f2),.a,.a,.a,.a,.a,.g true (.a),.g true (.a),.t (rOf (Yp (st:=(St.mk 0 [])) f6))]) (.a)))) .a)) (.a)) (by kernel_rfl)
theorem lj_bad2(n fu:Nat)(l:List Act5)(hl:l.length<=60)(c i:Int)(c0:0<=c)(c1:c<=3000)(h0:0<=i)(hi:i<(l.length:Int))(k a u:Int)(b ks:List Int)(hx:(Zf l)[i.toNat]? = some (.agg [.int .i64 k,.int .i64 a,.isl 1 (bys b),.isl 1 (ints ks),.int .i64 u]))(hb:b.length<=1000000000000000)(hks:ks.length<=60)(h:3000<c+b.length):Z2 prog C0 (n+20) 24 0 0 (fu+1) (ljE l c i) ⟨0,[]⟩=some (.ret,ljB,⟨0,[]⟩):=by
 have f1:decide (i<((Zf l).length:Int))=true:=by simp;omega
 have f2:(Zf l)[i.toNat]? = some (LV.agg [.int i64 k,.int i64 a,.isl 1 (bys b),.isl 1 (ints ks),.int i64 u]):=hx;have f3:0<=i/\i<((Zf l).length:Int):=by simp;omega
 have f4:LV.int i64 (IntKind.wrap i64 (c+((bys b).length:Int)))=LV.int i64 (c+(b.length:Int)):=by simp (disch:=omega)
 have f5:decide (60<((ints ks).length:Int))=false:=by simp;omega
 have f6:LV.bool (if decide (60<((ints ks).length:Int))=true then true else decide (3000<c+(b.length:Int)))=LV.bool true:=by simp;omega
 exact dlp (fun h=>ai (congrArg LV.bool f1)<|ai (f3)<|ai (f2)<|ai (f4)<|ai (f3)<|ai (f2)<|ai (congrArg some f5)<|ai (congrArg some f5)<|ai (f6)<|h) (.i (.s (.s (.a) (.b true (.a))) (.s (.k (.s (.r [.a,.a,.a,.e (rOf f2),.a,.a,.a,.v (vOf f4) (.a)]) (.s (.r [.a,.a,.e (rOf f2),.a,.a,.a,.a,.a,.g false (.a),.g false (.a),.v (vOf f6) (.a)]) (.a)))) .a)) (.a)) (by kernel_rfl)
theorem lj_long(n:Nat)(l:List Act5)(hl:40<l.length):Zd prog C0 (Z3 prog C0 (n+20)) (n+20) 24 [.isl 5 (Zf l)] ⟨0,[]⟩=some (.bool false,⟨0,[]⟩):=by
 have f1:decide (40<((Zf l).length:Int))=true:=by simp;omega
 exact drn (fun h=>ai (congrArg LV.bool f1)<|h) (.s (.a) (.s (.s (.a) (.b true (.a))) .a)) [] .a (by kernel_rfl)
theorem lj_thru(n:Nat)(l:List Act5)(hl:l.length<=40)(L:Z2 prog C0 (n+20) 24 0 0 (n+20) (ljE l 0 0) ⟨0,[]⟩=some (.exit 0,ljX,⟨0,[]⟩)):Zd prog C0 (Z3 prog C0 (n+20)) (n+20) 24 [.isl 5 (Zf l)] ⟨0,[]⟩=some (.bool true,⟨0,[]⟩):=by
 have f1:decide (40<((Zf l).length:Int))=false:=by simp;omega
 have f2:=L
 exact drn (fun h=>ai (congrArg LV.bool f1)<|ai (Eq.refl (Zc f2))<|ai (f2)<|h) (.s (.a) (.s (.s (.a) (.b false (.a))) (.s (.a) (.s (.s (.a) (.k (.l (.h [] (eOf f2) (Y2 f2) (rOf f2))))) (.a))))) [] .a (by kernel_rfl)
theorem lj_stop(n:Nat)(l:List Act5)(hl:l.length<=40)(L:Z2 prog C0 (n+20) 24 0 0 (n+20) (ljE l 0 0) ⟨0,[]⟩=some (.ret,ljB,⟨0,[]⟩)):Zd prog C0 (Z3 prog C0 (n+20)) (n+20) 24 [.isl 5 (Zf l)] ⟨0,[]⟩=some (.bool false,⟨0,[]⟩):=by
 have f1:decide (40<((Zf l).length:Int))=false:=by simp;omega
 have f2:=L
 exact drn (fun h=>ai (congrArg LV.bool f1)<|ai (Eq.refl (Zc f2))<|ai (f2)<|h) (.s (.a) (.s (.s (.a) (.b false (.a))) (.s (.a) (.s (.s (.a) (.k (.l (.h [] (eOf f2) (Y2 f2) (rOf f2))))) .a)))) [] .a (by kernel_rfl)
def Ws:List Act5->Int->Bool
 | [],_=>true
 | x::l,c=>if 60<x.keep.length∨3000<c+x.b.length then false else Ws l (c+x.b.length)
def light9(l:List Act5):Bool:=if 40<l.length then false else Ws l 0
theorem lj_loop(n:Nat)(l:List Act5)(hl:l.length<=60)(hk:∀ x∈l,x.b.length<=1000000000000000):∀ (q:List Act5) (fu i:Nat) (c:Int),0<=c->c<=3000->i<=l.length->l.drop i=q->q.length<fu ->
  Z2 prog C0 (n+20) 24 0 0 fu (ljE l c i) ⟨0,[]⟩=some (if Ws q c then (.exit 0,ljX,⟨0,[]⟩) else (.ret,ljB,⟨0,[]⟩))
 | [],fu,i,c,h0,h1,hle,hq,hf=>by
  obtain ⟨fu,rfl⟩:∃ k,fu=k+1:=⟨fu-1,by simp at hf;omega⟩
  have:l.length<=i:=by simpa using hq
  obtain rfl:i=l.length:=by omega
  exact lj_end n fu l c
 | x::q,fu,i,c,h0,h1,hle,hq,hf=>by
  obtain ⟨fu,rfl⟩:∃ k,fu=k+1:=⟨fu-1,by simp at hf;omega⟩
  have hx:l[i]? = some x:=by
   have:=congrArg List.head? hq;simpa [List.head?_drop] using this
  have hlt:=(List.getElem?_eq_some_iff.1 hx).1;have hb:=hk x (List.mem_of_getElem? hx);have hd2:l.drop (i+1)=q:=by rw [<- List.drop_drop,hq];rfl
  have hx5:=ops5_at hx
  by_cases e1:60<x.keep.length
  ·have e:Ws (x::q) c=false:=by rw [Ws,if_pos (.inl e1)]
   rw [e];exact lj_bad1 n fu l hl c i h0 h1 (by omega) (by omega) _ _ _ _ _ hx5 hb e1
  by_cases e2:3000<c+x.b.length
  ·have e:Ws (x::q) c=false:=by rw [Ws,if_pos (.inr e2)]
   rw [e];exact lj_bad2 n fu l hl c i h0 h1 (by omega) (by omega) _ _ _ _ _ hx5 hb (by omega) e2
  have e:Ws (x::q) c=Ws q (c+x.b.length):=by rw [Ws,if_neg (by omega)]
  rw [e];exact lj_step n fu l hl c i h0 h1 (by omega) (by omega) _ _ _ _ _ hx5 hb (by omega) (by omega) _ (lj_loop n l hl hk q fu (i+1) _ (by omega) (by omega) (by omega) hd2 (by simp at hf;omega))
theorem light9_ok(n:Nat)(hn:30<n)(l:List Act5)(hk:∀ x∈l,x.b.length<=1000000000000000):Zd prog C0 (Z3 prog C0 (n+20)) (n+20) 24 [.isl 5 (Zf l)] ⟨0,[]⟩=some (.bool (light9 l),⟨0,[]⟩):=by
 unfold light9
 split
 ·rename_i h;exact lj_long n l h
 ·rename_i h
  have L:=lj_loop n l (by omega) hk l (n+20) 0 0 (by omega) (by omega) (by omega) rfl (by omega)
  cases e:Ws l 0 with
  | true=>rw [e] at L;exact lj_thru n l (by omega) L
  | false=>rw [e] at L;exact lj_stop n l (by omega) L
theorem lightJ_by:∀ {l:List Act5} {c:Int},Ws l c=true->(∀ x∈l,x.keep.length<=60/\c+x.b.length<=3000)
 | [],c,h=>by simp
 | x::l,c,h=>by
  rw [Ws] at h
  split at h
  ·simp at h
  ·rename_i hn
   intro y hy
   rcases List.mem_cons.1 hy with rfl | hy
   ·omega
   ·have:=lightJ_by h y hy;omega
end Go.Mac
namespace Go.Mac
open Go Go.Eng Go.Proofs Go.Mac.Nd
open Go.IntKind (i64)
open Go.Proofs.Try (prog)
set_option maxHeartbeats 0
set_option maxRecDepth 100000
abbrev plE(l:List Act5)(s:LV)(i:Int):LEnv:=[.isl 5 (Zf l),.any,.any,.any,.ptr 0 0,.any,.ptr 1 0,.any,.nili,s,.int .i64 i,.any,.any,.any,.any,.any,.any,.any,.any,.any,.any,.any,.any,.any,.any,.any,.any,.any,.any,.any,.any,.any,.any,.any,.any,.any,.any,.any,.any,.any,.any,.any,.any,.any,.any,.any,.any,.any,.any,.any,.any,.any,.any,.any,.any,.any,.any,.any,.any,.any,.any,.any,.any,.any,.any,.any,.any,.any,.any,.any,.any,.any,.any,.any,.any,.any,.any,.any,.any,.any,.any,.any,.any,.any,.any,.any,.any,.any,.any,.any,.any,.any,.any,.any,.any,.any,.any,.any,.any,.any,.any,.any,.any,.any,.any,.any,.any,.any,.any,.any,.any,.any,.any,.any,.any,.any,.any,.any,.any,.any,.any,.any,.any,.any,.any,.any,.any,.any,.any,.any,.any,.any,.any,.any,.any,.any]
abbrev plX:LEnv:=[.any,.any,.any,.any,.ptr 0 0,.any,.ptr 1 0,.any,.any,.any,.any,.any,.any,.any,.any,.any,.any,.any,.any,.any,.any,.any,.any,.any,.any,.any,.any,.any,.any,.any,.any,.any,.any,.any,.any,.any,.any,.any,.any,.any,.any,.any,.any,.any,.any,.any,.any,.any,.any,.any,.any,.any,.any,.any,.any,.any,.any,.any,.any,.any,.any,.any,.any,.any,.any,.any,.any,.any,.any,.any,.any,.any,.any,.any,.any,.any,.any,.any,.any,.any,.any,.any,.any,.any,.any,.any,.any,.any,.any,.any,.any,.any,.any,.any,.any,.any,.any,.any,.any,.any,.any,.any,.any,.any,.any,.any,.any,.any,.any,.any,.any,.any,.any,.any,.any,.any,.any,.any,.any,.any,.any,.any,.any,.any,.any,.any,.any,.any,.any,.any,.any,.any,.any,.any,.any,.any]
abbrev plF(l:List Act5)(s:LV)(i:Int)(k:LV)(j:Int):LEnv:=[.isl 5 (Zf l),.any,.any,.any,.ptr 0 0,.any,.ptr 1 0,.any,.nili,s,.int .i64 i,.any,.any,.any,k,.int .i64 j,.any,.any,.any,.any,.any,.any,.any,.any,.any,.any,.any,.any,.any,.any,.any,.any,.any,.any,.any,.any,.any,.any,.any,.any,.any,.any,.any,.any,.any,.any,.any,.any,.any,.any,.any,.any,.any,.any,.any,.any,.any,.any,.any,.any,.any,.any,.any,.any,.any,.any,.any,.any,.any,.any,.any,.any,.any,.any,.any,.any,.any,.any,.any,.any,.any,.any,.any,.any,.any,.any,.any,.any,.any,.any,.any,.any,.any,.any,.any,.any,.any,.any,.any,.any,.any,.any,.any,.any,.any,.any,.any,.any,.any,.any,.any,.any,.any,.any,.any,.any,.any,.any,.any,.any,.any,.any,.any,.any,.any,.any,.any,.any,.any,.any,.any,.any,.any,.any,.any,.any]
abbrev plL0(rm:Int)(m:ML)(p:PL)(nx st:Int)(K:List LV):St:=⟨3,[(0,dO rm m p),(1,chD 3 nx st),(2,.row 64 2 K)]⟩
abbrev plL(rm:Int)(m:ML)(p:PL)(nx st:Int)(X K:List LV):St:=⟨4,[(0,dO rm m p),(1,chD 3 nx st),(2,.row 3 1 X),(3,.row 64 2 K)]⟩
abbrev plS(rm:Int)(m:ML)(p:PL)(nx st:Int)(W:List Int):St:=⟨3,[(0,dO rm m p),(1,chD 3 nx st),(2,.row 3 1 (ints W))]⟩
abbrev plR(rm:Int)(m:ML)(p:PL)(nx st:Int)(X:List LV):St:=⟨3,[(0,dO rm m p),(1,chD 3 nx st),(2,.row 3 1 X)]⟩
abbrev plN(rm:Int)(m:ML)(p:PL)(nx st:Int):St:=⟨2,[(0,dO rm m p),(1,chD 3 nx st)]⟩
abbrev AppF(rm:Int)(m:ML)(p p':PL)(nx st nx' st':Int)(b:List Int)(r:LV):Prop:=∀ j,300<j->Zd prog C0 (Z3 prog C0 (j+165)) (j+165) 29 [.ptr 0 0,.isl 1 (bys b)] ⟨2,[(0,chO 3 nx st),(1,dO rm m p)]⟩=some (r,⟨2,[(0,chO 3 nx' st'),(1,dO rm m p')]⟩)
abbrev SynF(rm:Int)(m m':ML)(p:PL)(nx st:Int):Prop:=∀ j,300<j->Zd prog C0 (Z3 prog C0 (j+60)) (j+60) 27 [.ptr 0 0] ⟨2,[(0,chO 3 nx st),(1,dO rm m p)]⟩=some (.tup [],⟨2,[(0,chO 3 nx st),(1,dO rm m' [])]⟩)
abbrev CutF(rm:Int)(m m':ML)(p:PL)(nx st at_:Int):Prop:=∀ j,300<j->Zd prog C0 (Z3 prog C0 (j+60)) (j+60) 31 [.ptr 0 0,.int .i64 at_] ⟨2,[(0,chO 3 nx st),(1,dO rm m p)]⟩=some (.nili,⟨2,[(0,chO 3 (at_+1) (st+1)),(1,dO rm m' [])]⟩)
abbrev CraF(rm:Int)(m m':ML)(p:PL)(ks:List Int)(c:Int):Prop:=∀ j,300<j->Zd prog C0 (Z3 prog C0 (j+60)) (j+60) 15 [.ptr 0 0,.isl 1 (ints ks),.int .i64 c] ⟨1,[(0,dO rm m p)]⟩=some (.tup [],⟨1,[(0,dO rm m' [])]⟩)
abbrev OpnF(rm:Int)(m:ML)(v:LV)(S:St):Prop:=∀ j,400<=j->Zd prog C0 (Z3 prog C0 (j+100)) (j+100) 28 [.ptr 0 0,.int .i64 3,.int .i64 3] ⟨1,[(0,dO rm m [])]⟩=some (.tup [.ptr 1 0,v,.nili],S)
abbrev BakF(k n r:Int):Prop:=∀ j,Zd prog C0 (Z3 prog C0 (j+20)) (j+20) 52 [.int .i64 k,.int .i64 n] ⟨0,[]⟩=some (.int .i64 r,⟨0,[]⟩)
def atL(ls:ML):List Int:=ls.map (·.1)
theorem zq8_9(a0:Int):LObj.row 3 1 (List.take 1 (List.drop 0 (List.set [.int i64 0] 0 (LV.int i64 a0))))=LObj.row 3 1 [.int i64 a0]:=by simp
theorem pl_aN(n fu:Nat)(hn:400<=n)(rm:Int)(m m':ML)(p p':PL)(nx st nx' st':Int)(l:List Act5)(hl:l.length<=60)(i:Int)(h0:0<=i)(hi:i<(l.length:Int))(kind a u:Int)(b ks:List Int)(hx:(Zf l)[i.toNat]? = some (.agg [.int .i64 kind,.int .i64 a,.isl 1 (bys b),.isl 1 (ints ks),.int .i64 u]))(hk:kind=0)(F:(AppF rm m p p' nx st nx' st' b (.tup [.int .i64 nx,.nili])))(r:LX × LEnv × St)(hr:Z2 prog C0 (n+800) 26 0 0 fu (plE l (.sl 1 2 0 1 none) (i+1)) (plS rm m p' nx' st' [nx])=some r):
  Z2 prog C0 (n+800) 26 0 0 (fu+1) (plE l .nils i) (plN rm m p nx st)=some r:=by
 have f1:decide (i<((Zf l).length:Int))=true:=by simp;omega
 have f2:LV.bool (if decide (i<((Zf l).length:Int))=true then true else false)=LV.bool true:=by simp;omega
 have f3:(Zf l)[i.toNat]? = some (LV.agg [.int i64 kind,.int i64 a,.isl 1 (bys b),.isl 1 (ints ks),.int i64 u]):=hx;have f4:0<=i/\i<((Zf l).length:Int):=by simp;omega
 have f5:LV.irp (LV.agg [.int i64 kind,.int i64 a,.isl 1 (bys b),.isl 1 (ints ks),.int i64 u])=LV.irp (LV.agg [.int i64 0,.int i64 a,.isl 1 (bys b),.isl 1 (ints ks),.int i64 u]):=by simp;omega
 have f6:=F (n+634) (by omega)
 have f7:LV.int i64 (IntKind.wrap i64 (i+1))=LV.int i64 (i+1):=by simp (disch:=omega)
 have f8:=zq8_9 nx;have f9:=hr;exact dlp (fun h=>ai (congrArg some f1)<|ai (congrArg some f1)<|ai (f2)<|ai (f4)<|ai (f3)<|ai (f5)<|ai (f4)<|ai (f3)<|ai (f5)<|ai (f6)<|ai (f7)<|ai (congrArg some f8)<|ai (Eq.refl (Zc f9))<|ai (f9)<|h) (.i (.s (.s (.r [.a,.a,.a,.a,.a,.g true (.a),.g true (.a),.v (vOf f2) (.a)]) (.a)) (.s (.k (.s (.r [.a,.a,.v (vOf f5) (.e (rOf f3))]) (.k (.s (.a) (.c (.s (.r [.a,.a,.a,.v (vOf f5) (.e (rOf f3)),.a,.a,.f (rOf f6)]) (.a))))))) (.r [.a,.v (vOf f7) (.a)]))) (.h [.x 2 (vOf f8)] (eOf f9) (Y2 f9) (rOf f9))) (by kernel_rfl)
theorem zq8_10(a0:Int):LObj.row 3 1 (List.set [.int i64 0] 0 (LV.int i64 a0))=LObj.row 3 1 [.int i64 a0]:=by simp
theorem pl_aI(n fu:Nat)(hn:400<=n)(rm:Int)(m m':ML)(p p':PL)(nx st nx' st':Int)(l:List Act5)(hl:l.length<=60)(i:Int)(h0:0<=i)(hi:i<(l.length:Int))(kind a u:Int)(b ks:List Int)(hx:(Zf l)[i.toNat]? = some (.agg [.int .i64 kind,.int .i64 a,.isl 1 (bys b),.isl 1 (ints ks),.int .i64 u]))(W:List Int)(k:Nat)(hW:W.length<=1000)(hk2:k<W.length)(hk:kind=0)(F:(AppF rm m p p' nx st nx' st' b (.tup [.int .i64 nx,.nili])))(r:LX × LEnv × St)(hr:Z2 prog C0 (n+800) 26 0 0 fu (plE l (.sl 1 2 0 (k+1) none) (i+1)) (plR rm m p' nx' st' (Z7 (ints W) k [.int .i64 nx]))=some r):
  Z2 prog C0 (n+800) 26 0 0 (fu+1) (plE l (.sl 1 2 0 k none) i) (plS rm m p nx st W)=some r:=by
 have f1:decide (i<((Zf l).length:Int))=true:=by simp;omega
 have f2:LV.bool (if decide (i<((Zf l).length:Int))=true then true else false)=LV.bool true:=by simp;omega
 have f3:(Zf l)[i.toNat]? = some (LV.agg [.int i64 kind,.int i64 a,.isl 1 (bys b),.isl 1 (ints ks),.int i64 u]):=hx;have f4:0<=i/\i<((Zf l).length:Int):=by simp;omega
 have f5:LV.irp (LV.agg [.int i64 kind,.int i64 a,.isl 1 (bys b),.isl 1 (ints ks),.int i64 u])=LV.irp (LV.agg [.int i64 0,.int i64 a,.isl 1 (bys b),.isl 1 (ints ks),.int i64 u]):=by simp;omega
 have f6:=F (n+634) (by omega)
 have f7:1<=1:=by omega
 have f8:k<List.length (ints W)/\k+1<=List.length (ints W)/\(k+1)*8<=140737488355328:=by simp;omega
 have f9:=zq8_10 nx;have f10:LObj.row 3 1 (Z7 (ints W) k (List.take 1 (List.drop 0 (List.set [.int i64 0] 0 (LV.int i64 nx)))))=LObj.row 3 1 (Z7 (ints W) k [.int i64 nx]):=by simp
 have f11:LV.int i64 (IntKind.wrap i64 (i+1))=LV.int i64 (i+1):=by simp (disch:=omega)
 have f12:=hr;exact dlp (fun h=>ai (congrArg some f1)<|ai (congrArg some f1)<|ai (f2)<|ai (f4)<|ai (f3)<|ai (f5)<|ai (f4)<|ai (f3)<|ai (f5)<|ai (f6)<|ai (f7)<|ai (f8)<|ai (congrArg some f9)<|ai (congrArg some f10)<|ai (f11)<|ai (Eq.refl (Zc f12))<|ai (f12)<|h) (.i (.s (.s (.r [.a,.a,.a,.a,.a,.g true (.a),.g true (.a),.v (vOf f2) (.a)]) (.a)) (.s (.k (.s (.r [.a,.a,.v (vOf f5) (.e (rOf f3))]) (.k (.s (.a) (.c (.s (.r [.a,.a,.a,.v (vOf f5) (.e (rOf f3)),.a,.a,.f (rOf f6)]) (.s (.a) (.c (.r [.a,.a,.a,.x 2 (vOf f10) (.x 3 (vOf f9) (.e .nili))]))))))))) (.r [.a,.v (vOf f11) (.a)]))) (.h [] (eOf f12) (Y2 f12) (rOf f12))) (by kernel_rfl)
theorem zq8_11(a0:List Int)(a1:Int):LObj.row 3 1 (ints a0++List.take 1 (List.drop 0 (List.set [.int i64 0] 0 (LV.int i64 a1))))=LObj.row 3 1 (ints a0++[.int i64 a1]):=by simp
theorem pl_aG(n fu:Nat)(hn:400<=n)(rm:Int)(m m':ML)(p p':PL)(nx st nx' st':Int)(l:List Act5)(hl:l.length<=60)(i:Int)(h0:0<=i)(hi:i<(l.length:Int))(kind a u:Int)(b ks:List Int)(hx:(Zf l)[i.toNat]? = some (.agg [.int .i64 kind,.int .i64 a,.isl 1 (bys b),.isl 1 (ints ks),.int .i64 u]))(W:List Int)(k:Nat)(hW:W.length<=1000)(hk2:k=W.length)(hk:kind=0)(F:(AppF rm m p p' nx st nx' st' b (.tup [.int .i64 nx,.nili])))(r:LX × LEnv × St)(hr:Z2 prog C0 (n+800) 26 0 0 fu (plE l (.sl 1 2 0 (W.length+1) none) (i+1)) (plR rm m p' nx' st' (ints W++[.int .i64 nx]))=some r):
  Z2 prog C0 (n+800) 26 0 0 (fu+1) (plE l (.sl 1 2 0 k none) i) (plS rm m p nx st W)=some r:=by
 have f1:LV.sl 1 2 0 k none=LV.sl 1 2 0 (List.length W) none:=by simp;omega
 have f2:decide (i<((Zf l).length:Int))=true:=by simp;omega
 have f3:LV.bool (if decide (i<((Zf l).length:Int))=true then true else false)=LV.bool true:=by simp;omega
 have f4:(Zf l)[i.toNat]? = some (LV.agg [.int i64 kind,.int i64 a,.isl 1 (bys b),.isl 1 (ints ks),.int i64 u]):=hx;have f5:0<=i/\i<((Zf l).length:Int):=by simp;omega
 have f6:LV.irp (LV.agg [.int i64 kind,.int i64 a,.isl 1 (bys b),.isl 1 (ints ks),.int i64 u])=LV.irp (LV.agg [.int i64 0,.int i64 a,.isl 1 (bys b),.isl 1 (ints ks),.int i64 u]):=by simp;omega
 have f7:=F (n+634) (by omega)
 have f8:1<=1:=by omega
 have f9:List.length (ints W)=List.length W/\(List.length W+1)*8<=140737488355328:=by simp;omega
 have f10:=zq8_11 W nx;have f11:=zq8_10 nx;have f12:LV.int i64 (IntKind.wrap i64 (i+1))=LV.int i64 (i+1):=by simp (disch:=omega)
 have f13:=hr;exact dlp (fun h=>ai (f1)<|ai (congrArg some f2)<|ai (congrArg some f2)<|ai (f3)<|ai (f5)<|ai (f4)<|ai (f6)<|ai (f5)<|ai (f4)<|ai (f6)<|ai (f7)<|ai (f8)<|ai (f9)<|ai (congrArg some f10)<|ai (congrArg some f11)<|ai (f12)<|ai (Eq.refl (Zc f13))<|ai (f13)<|h) (.it [.y 9 (vOf f1)] (.s (.s (.r [.a,.a,.a,.a,.a,.g true (.a),.g true (.a),.v (vOf f3) (.a)]) (.a)) (.s (.k (.s (.r [.a,.a,.v (vOf f6) (.e (rOf f4))]) (.k (.s (.a) (.c (.s (.r [.a,.a,.a,.v (vOf f6) (.e (rOf f4)),.a,.a,.f (rOf f7)]) (.s (.a) (.c (.r [.a,.a,.a,.x 3 (vOf f11) (.x 4 (vOf f10) (.q))]))))))))) (.r [.a,.v (vOf f12) (.a)]))) (.h [] (eOf f13) (Y2 f13) (rOf f13))) (by kernel_rfl)
theorem pl_eN(n fu:Nat)(hn:400<=n)(rm:Int)(m m':ML)(p p':PL)(nx st nx' st':Int)(l:List Act5)(hl:l.length<=60)(i:Int)(h0:0<=i)(hi:i<(l.length:Int))(kind a u:Int)(b ks:List Int)(hx:(Zf l)[i.toNat]? = some (.agg [.int .i64 kind,.int .i64 a,.isl 1 (bys b),.isl 1 (ints ks),.int .i64 u]))(hk:kind=0)(F:(AppF rm m p p nx st nx st b (.tup [.int .i64 0,.ifc 115 (.agg [.str [114,101,99,111,114,100],.int .i64 0,.ifc 71 (.int .i64 6)])])))(r:LX × LEnv × St)(hr:Z2 prog C0 (n+800) 26 0 0 fu (plE l .nils (i+1)) (plN rm m p nx st)=some r):
  Z2 prog C0 (n+800) 26 0 0 (fu+1) (plE l .nils i) (plN rm m p nx st)=some r:=by
 have f1:decide (i<((Zf l).length:Int))=true:=by simp;omega
 have f2:LV.bool (if decide (i<((Zf l).length:Int))=true then true else false)=LV.bool true:=by simp;omega
 have f3:(Zf l)[i.toNat]? = some (LV.agg [.int i64 kind,.int i64 a,.isl 1 (bys b),.isl 1 (ints ks),.int i64 u]):=hx;have f4:0<=i/\i<((Zf l).length:Int):=by simp;omega
 have f5:LV.irp (LV.agg [.int i64 kind,.int i64 a,.isl 1 (bys b),.isl 1 (ints ks),.int i64 u])=LV.irp (LV.agg [.int i64 0,.int i64 a,.isl 1 (bys b),.isl 1 (ints ks),.int i64 u]):=by simp;omega
 have f6:=F (n+634) (by omega)
 have f7:LV.int i64 (IntKind.wrap i64 (i+1))=LV.int i64 (i+1):=by simp (disch:=omega)
 have f8:=hr;exact dlp (fun h=>ai (congrArg some f1)<|ai (congrArg some f1)<|ai (f2)<|ai (f4)<|ai (f3)<|ai (f5)<|ai (f4)<|ai (f3)<|ai (f5)<|ai (f6)<|ai (f7)<|ai (Eq.refl (Zc f8))<|ai (f8)<|h) (.i (.s (.s (.r [.a,.a,.a,.a,.a,.g true (.a),.g true (.a),.v (vOf f2) (.a)]) (.a)) (.s (.k (.s (.r [.a,.a,.v (vOf f5) (.e (rOf f3))]) (.k (.s (.a) (.c (.s (.r [.a,.a,.a,.v (vOf f5) (.e (rOf f3)),.a,.a,.f (rOf f6)]) (.a))))))) (.r [.a,.v (vOf f7) (.a)]))) (.h [] (eOf f8) (Y2 f8) (rOf f8))) (by kernel_rfl)
theorem pl_eS(n fu:Nat)(hn:400<=n)(rm:Int)(m m':ML)(p p':PL)(nx st nx' st':Int)(l:List Act5)(hl:l.length<=60)(i:Int)(h0:0<=i)(hi:i<(l.length:Int))(kind a u:Int)(b ks:List Int)(hx:(Zf l)[i.toNat]? = some (.agg [.int .i64 kind,.int .i64 a,.isl 1 (bys b),.isl 1 (ints ks),.int .i64 u]))(W:List Int)(k:Nat)(hW:W.length<=1000)(hk2:k<=W.length)(hk:kind=0)(F:(AppF rm m p p nx st nx st b (.tup [.int .i64 0,.ifc 115 (.agg [.str [114,101,99,111,114,100],.int .i64 0,.ifc 71 (.int .i64 6)])])))(r:LX × LEnv × St)(hr:Z2 prog C0 (n+800) 26 0 0 fu (plE l (.sl 1 2 0 k none) (i+1)) (plS rm m p nx st W)=some r):
  Z2 prog C0 (n+800) 26 0 0 (fu+1) (plE l (.sl 1 2 0 k none) i) (plS rm m p nx st W)=some r:=by
 have f1:decide (i<((Zf l).length:Int))=true:=by simp;omega
 have f2:LV.bool (if decide (i<((Zf l).length:Int))=true then true else false)=LV.bool true:=by simp;omega
 have f3:(Zf l)[i.toNat]? = some (LV.agg [.int i64 kind,.int i64 a,.isl 1 (bys b),.isl 1 (ints ks),.int i64 u]):=hx;have f4:0<=i/\i<((Zf l).length:Int):=by simp;omega
 have f5:LV.irp (LV.agg [.int i64 kind,.int i64 a,.isl 1 (bys b),.isl 1 (ints ks),.int i64 u])=LV.irp (LV.agg [.int i64 0,.int i64 a,.isl 1 (bys b),.isl 1 (ints ks),.int i64 u]):=by simp;omega
 have f6:=F (n+634) (by omega)
 have f7:LV.int i64 (IntKind.wrap i64 (i+1))=LV.int i64 (i+1):=by simp (disch:=omega)
 have f8:=hr;exact dlp (fun h=>ai (congrArg some f1)<|ai (congrArg some f1)<|ai (f2)<|ai (f4)<|ai (f3)<|ai (f5)<|ai (f4)<|ai (f3)<|ai (f5)<|ai (f6)<|ai (f7)<|ai (Eq.refl (Zc f8))<|ai (f8)<|h) (.i (.s (.s (.r [.a,.a,.a,.a,.a,.g true (.a),.g true (.a),.v (vOf f2) (.a)]) (.a)) (.s (.k (.s (.r [.a,.a,.v (vOf f5) (.e (rOf f3))]) (.k (.s (.a) (.c (.s (.r [.a,.a,.a,.v (vOf f5) (.e (rOf f3)),.a,.a,.f (rOf f6)]) (.a))))))) (.r [.a,.v (vOf f7) (.a)]))) (.h [] (eOf f8) (Y2 f8) (rOf f8))) (by kernel_rfl)
theorem pl_sN(n fu:Nat)(hn:400<=n)(rm:Int)(m m':ML)(p p':PL)(nx st nx' st':Int)(l:List Act5)(hl:l.length<=60)(i:Int)(h0:0<=i)(hi:i<(l.length:Int))(kind a u:Int)(b ks:List Int)(hx:(Zf l)[i.toNat]? = some (.agg [.int .i64 kind,.int .i64 a,.isl 1 (bys b),.isl 1 (ints ks),.int .i64 u]))(hk:kind=1)(F:(SynF rm m m' p nx st))(r:LX × LEnv × St)(hr:Z2 prog C0 (n+800) 26 0 0 fu (plE l .nils (i+1)) (plN rm m' [] nx st)=some r):
  Z2 prog C0 (n+800) 26 0 0 (fu+1) (plE l .nils i) (plN rm m p nx st)=some r:=by
 have f1:decide (i<((Zf l).length:Int))=true:=by simp;omega
 have f2:LV.bool (if decide (i<((Zf l).length:Int))=true then true else false)=LV.bool true:=by simp;omega
 have f3:(Zf l)[i.toNat]? = some (LV.agg [.int i64 kind,.int i64 a,.isl 1 (bys b),.isl 1 (ints ks),.int i64 u]):=hx;have f4:0<=i/\i<((Zf l).length:Int):=by simp;omega
 have f5:LV.irp (LV.agg [.int i64 kind,.int i64 a,.isl 1 (bys b),.isl 1 (ints ks),.int i64 u])=LV.irp (LV.agg [.int i64 1,.int i64 a,.isl 1 (bys b),.isl 1 (ints ks),.int i64 u]):=by simp;omega
 have f6:=F (n+739) (by omega)
 have f7:LV.int i64 (IntKind.wrap i64 (i+1))=LV.int i64 (i+1):=by simp (disch:=omega)
 have f8:=hr;exact dlp (fun h=>ai (congrArg some f1)<|ai (congrArg some f1)<|ai (f2)<|ai (f4)<|ai (f3)<|ai (f5)<|ai (f6)<|ai (f7)<|ai (Eq.refl (Zc f8))<|ai (f8)<|h) (.i (.s (.s (.r [.a,.a,.a,.a,.a,.g true (.a),.g true (.a),.v (vOf f2) (.a)]) (.a)) (.s (.k (.s (.r [.a,.a,.v (vOf f5) (.e (rOf f3))]) (.k (.s (.a) (.c (.s (.a) (.c (.r [.a,.f (rOf f6)])))))))) (.r [.a,.v (vOf f7) (.a)]))) (.h [] (eOf f8) (Y2 f8) (rOf f8))) (by kernel_rfl)
theorem pl_sS(n fu:Nat)(hn:400<=n)(rm:Int)(m m':ML)(p p':PL)(nx st nx' st':Int)(l:List Act5)(hl:l.length<=60)(i:Int)(h0:0<=i)(hi:i<(l.length:Int))(kind a u:Int)(b ks:List Int)(hx:(Zf l)[i.toNat]? = some (.agg [.int .i64 kind,.int .i64 a,.isl 1 (bys b),.isl 1 (ints ks),.int .i64 u]))(W:List Int)(k:Nat)(hW:W.length<=1000)(hk2:k<=W.length)(hk:kind=1)(F:(SynF rm m m' p nx st))(r:LX × LEnv × St)(hr:Z2 prog C0 (n+800) 26 0 0 fu (plE l (.sl 1 2 0 k none) (i+1)) (plS rm m' [] nx st W)=some r):
  Z2 prog C0 (n+800) 26 0 0 (fu+1) (plE l (.sl 1 2 0 k none) i) (plS rm m p nx st W)=some r:=by
 have f1:decide (i<((Zf l).length:Int))=true:=by simp;omega
 have f2:LV.bool (if decide (i<((Zf l).length:Int))=true then true else false)=LV.bool true:=by simp;omega
 have f3:(Zf l)[i.toNat]? = some (LV.agg [.int i64 kind,.int i64 a,.isl 1 (bys b),.isl 1 (ints ks),.int i64 u]):=hx;have f4:0<=i/\i<((Zf l).length:Int):=by simp;omega
 have f5:LV.irp (LV.agg [.int i64 kind,.int i64 a,.isl 1 (bys b),.isl 1 (ints ks),.int i64 u])=LV.irp (LV.agg [.int i64 1,.int i64 a,.isl 1 (bys b),.isl 1 (ints ks),.int i64 u]):=by simp;omega
 have f6:=F (n+739) (by omega)
 have f7:LV.int i64 (IntKind.wrap i64 (i+1))=LV.int i64 (i+1):=by simp (disch:=omega)
 have f8:=hr;exact dlp (fun h=>ai (congrArg some f1)<|ai (congrArg some f1)<|ai (f2)<|ai (f4)<|ai (f3)<|ai (f5)<|ai (f6)<|ai (f7)<|ai (Eq.refl (Zc f8))<|ai (f8)<|h) (.i (.s (.s (.r [.a,.a,.a,.a,.a,.g true (.a),.g true (.a),.v (vOf f2) (.a)]) (.a)) (.s (.k (.s (.r [.a,.a,.v (vOf f5) (.e (rOf f3))]) (.k (.s (.a) (.c (.s (.a) (.c (.r [.a,.f (rOf f6)])))))))) (.r [.a,.v (vOf f7) (.a)]))) (.h [] (eOf f8) (Y2 f8) (rOf f8))) (by kernel_rfl)
theorem pl_kN(n fu:Nat)(hn:400<=n)(rm:Int)(m m':ML)(p p':PL)(nx st nx' st':Int)(l:List Act5)(hl:l.length<=60)(i:Int)(h0:0<=i)(hi:i<(l.length:Int))(kind a u:Int)(b ks:List Int)(hx:(Zf l)[i.toNat]? = some (.agg [.int .i64 kind,.int .i64 a,.isl 1 (bys b),.isl 1 (ints ks),.int .i64 u]))(hk:kind=2)(q:Int)(hq:q<0)(F:BakF 0 a q)(r:LX × LEnv × St)(hr:Z2 prog C0 (n+800) 26 0 0 fu (plE l .nils (i+1)) (plN rm m p nx st)=some r):
  Z2 prog C0 (n+800) 26 0 0 (fu+1) (plE l .nils i) (plN rm m p nx st)=some r:=by
 have f1:decide (i<((Zf l).length:Int))=true:=by simp;omega
 have f2:LV.bool (if decide (i<((Zf l).length:Int))=true then true else false)=LV.bool true:=by simp;omega
 have f3:(Zf l)[i.toNat]? = some (LV.agg [.int i64 kind,.int i64 a,.isl 1 (bys b),.isl 1 (ints ks),.int i64 u]):=hx;have f4:0<=i/\i<((Zf l).length:Int):=by simp;omega
 have f5:LV.irp (LV.agg [.int i64 kind,.int i64 a,.isl 1 (bys b),.isl 1 (ints ks),.int i64 u])=LV.irp (LV.agg [.int i64 2,.int i64 a,.isl 1 (bys b),.isl 1 (ints ks),.int i64 u]):=by simp;omega
 have f6:=F (n+779);have f7:decide (0<=q)=false:=by simp;omega
 have f8:Wa (decide (0<=q)) LV.any (LV.bool false)=some (LV.bool false):=by simp;omega
 have f9:LV.int i64 (IntKind.wrap i64 (i+1))=LV.int i64 (i+1):=by simp (disch:=omega)
 have f10:=hr;exact dlp (fun h=>ai (congrArg some f1)<|ai (congrArg some f1)<|ai (f2)<|ai (f4)<|ai (f3)<|ai (f5)<|ai (f4)<|ai (f3)<|ai (f5)<|ai (f6)<|ai (congrArg some f7)<|ai (congrArg some f7)<|ai (congrArg some f7)<|ai (congrArg some f7)<|ai (Yp (st:=(St.mk 2 [(0,LObj.box 77 [.int i64 rm,.omap i64 (Zn m) (Xl m),.own 88 2 (Zg p)]),(1,LObj.box 106 [.ptr 0 0,.int i64 3,.int i64 nx,.int i64 st])])) f8)<|ai (f9)<|ai (Eq.refl (Zc f10))<|ai (f10)<|h) (.i (.s (.s (.r [.a,.a,.a,.a,.a,.g true (.a),.g true (.a),.v (vOf f2) (.a)]) (.a)) (.s (.k (.s (.r [.a,.a,.v (vOf f5) (.e (rOf f3))]) (.k (.s (.a) (.c (.s (.a) (.c (.s (.a) (.c (.s (.r [.a,.a,.a,.a,.v (vOf f5) (.e (rOf f3)),.a,.a,.f (rOf f6)]) (.s (.r [.a,.a,.a,.g false (.a),.g false (.a),.g false (.a),.g false (.a),.t (rOf (Yp (st:=(St.mk 2 [(0,LObj.box 77 [.int i64 rm,.omap i64 (Zn m) (Xl m),.own 88 2 (Zg p)]),(1,LObj.box 106 [.ptr 0 0,.int i64 3,.int i64 nx,.int i64 st])])) f8))]) (.a)))))))))))) (.r [.a,.v (vOf f9) (.a)]))) (.h [] (eOf f10) (Y2 f10) (rOf f10))) (by kernel_rfl)
theorem pl_kM(n fu:Nat)(hn:400<=n)(rm:Int)(m m':ML)(p p':PL)(nx st nx' st':Int)(l:List Act5)(hl:l.length<=60)(i:Int)(h0:0<=i)(hi:i<(l.length:Int))(kind a u:Int)(b ks:List Int)(hx:(Zf l)[i.toNat]? = some (.agg [.int .i64 kind,.int .i64 a,.isl 1 (bys b),.isl 1 (ints ks),.int .i64 u]))(hk:kind=2)(q:Int)(hq:0<=q)(F:BakF 0 a q)(r:LX × LEnv × St)(hr:Z2 prog C0 (n+800) 26 0 0 fu (plE l .nils (i+1)) (plN rm m p nx st)=some r):
  Z2 prog C0 (n+800) 26 0 0 (fu+1) (plE l .nils i) (plN rm m p nx st)=some r:=by
 have f1:decide (i<((Zf l).length:Int))=true:=by simp;omega
 have f2:LV.bool (if decide (i<((Zf l).length:Int))=true then true else false)=LV.bool true:=by simp;omega
 have f3:(Zf l)[i.toNat]? = some (LV.agg [.int i64 kind,.int i64 a,.isl 1 (bys b),.isl 1 (ints ks),.int i64 u]):=hx;have f4:0<=i/\i<((Zf l).length:Int):=by simp;omega
 have f5:LV.irp (LV.agg [.int i64 kind,.int i64 a,.isl 1 (bys b),.isl 1 (ints ks),.int i64 u])=LV.irp (LV.agg [.int i64 2,.int i64 a,.isl 1 (bys b),.isl 1 (ints ks),.int i64 u]):=by simp;omega
 have f6:=F (n+779);have f7:decide (0<=q)=true:=by simp;omega
 have f8:LV.bool (if decide (0<=q)=true then decide (q<0) else false)=LV.bool false:=by simp
 have f9:LV.int i64 (IntKind.wrap i64 (i+1))=LV.int i64 (i+1):=by simp (disch:=omega)
 have f10:=hr;exact dlp (fun h=>ai (congrArg some f1)<|ai (congrArg some f1)<|ai (f2)<|ai (f4)<|ai (f3)<|ai (f5)<|ai (f4)<|ai (f3)<|ai (f5)<|ai (f6)<|ai (congrArg some f7)<|ai (congrArg some f7)<|ai (congrArg some f7)<|ai (congrArg some f7)<|ai (f8)<|ai (f9)<|ai (Eq.refl (Zc f10))<|ai (f10)<|h) (.i (.s (.s (.r [.a,.a,.a,.a,.a,.g true (.a),.g true (.a),.v (vOf f2) (.a)]) (.a)) (.s (.k (.s (.r [.a,.a,.v (vOf f5) (.e (rOf f3))]) (.k (.s (.a) (.c (.s (.a) (.c (.s (.a) (.c (.s (.r [.a,.a,.a,.a,.v (vOf f5) (.e (rOf f3)),.a,.a,.f (rOf f6)]) (.s (.r [.a,.a,.a,.g true (.a),.g true (.a),.g true (.a),.g true (.a),.v (vOf f8) (.a)]) (.a)))))))))))) (.r [.a,.v (vOf f9) (.a)]))) (.h [] (eOf f10) (Y2 f10) (rOf f10))) (by kernel_rfl)
theorem pl_kS(n fu:Nat)(hn:400<=n)(rm:Int)(m m':ML)(p p':PL)(nx st nx' st':Int)(l:List Act5)(hl:l.length<=60)(i:Int)(h0:0<=i)(hi:i<(l.length:Int))(kind a u:Int)(b ks:List Int)(hx:(Zf l)[i.toNat]? = some (.agg [.int .i64 kind,.int .i64 a,.isl 1 (bys b),.isl 1 (ints ks),.int .i64 u]))(W:List Int)(k:Nat)(hW:W.length<=1000)(hk2:k<=W.length)(hk:kind=2)(q:Int)(hq:0<=q)(hq2:(k:Int)<=q)(F:BakF k a q)(r:LX × LEnv × St)(hr:Z2 prog C0 (n+800) 26 0 0 fu (plE l (.sl 1 2 0 k none) (i+1)) (plS rm m p nx st W)=some r):
  Z2 prog C0 (n+800) 26 0 0 (fu+1) (plE l (.sl 1 2 0 k none) i) (plS rm m p nx st W)=some r:=by
 have f1:decide (i<((Zf l).length:Int))=true:=by simp;omega
 have f2:LV.bool (if decide (i<((Zf l).length:Int))=true then true else false)=LV.bool true:=by simp;omega
 have f3:(Zf l)[i.toNat]? = some (LV.agg [.int i64 kind,.int i64 a,.isl 1 (bys b),.isl 1 (ints ks),.int i64 u]):=hx;have f4:0<=i/\i<((Zf l).length:Int):=by simp;omega
 have f5:LV.irp (LV.agg [.int i64 kind,.int i64 a,.isl 1 (bys b),.isl 1 (ints ks),.int i64 u])=LV.irp (LV.agg [.int i64 2,.int i64 a,.isl 1 (bys b),.isl 1 (ints ks),.int i64 u]):=by simp;omega
 have f6:=F (n+779);have f7:decide (0<=q)=true:=by simp;omega
 have f8:LV.bool (if decide (0<=q)=true then decide (q<(↑k:Int)) else false)=LV.bool false:=by simp;omega
 have f9:LV.int i64 (IntKind.wrap i64 (i+1))=LV.int i64 (i+1):=by simp (disch:=omega)
 have f10:=hr;exact dlp (fun h=>ai (congrArg some f1)<|ai (congrArg some f1)<|ai (f2)<|ai (f4)<|ai (f3)<|ai (f5)<|ai (f4)<|ai (f3)<|ai (f5)<|ai (f6)<|ai (congrArg some f7)<|ai (congrArg some f7)<|ai (congrArg some f7)<|ai (congrArg some f7)<|ai (f8)<|ai (f9)<|ai (Eq.refl (Zc f10))<|ai (f10)<|h) (.i (.s (.s (.r [.a,.a,.a,.a,.a,.g true (.a),.g true (.a),.v (vOf f2) (.a)]) (.a)) (.s (.k (.s (.r [.a,.a,.v (vOf f5) (.e (rOf f3))]) (.k (.s (.a) (.c (.s (.a) (.c (.s (.a) (.c (.s (.r [.a,.a,.a,.a,.v (vOf f5) (.e (rOf f3)),.a,.a,.f (rOf f6)]) (.s (.r [.a,.a,.a,.g true (.a),.g true (.a),.g true (.a),.g true (.a),.v (vOf f8) (.a)]) (.a)))))))))))) (.r [.a,.v (vOf f9) (.a)]))) (.h [] (eOf f10) (Y2 f10) (rOf f10))) (by kernel_rfl)
theorem pl_kT(n fu:Nat)(hn:400<=n)(rm:Int)(m m':ML)(p p':PL)(nx st nx' st':Int)(l:List Act5)(hl:l.length<=60)(i:Int)(h0:0<=i)(hi:i<(l.length:Int))(kind a u:Int)(b ks:List Int)(hx:(Zf l)[i.toNat]? = some (.agg [.int .i64 kind,.int .i64 a,.isl 1 (bys b),.isl 1 (ints ks),.int .i64 u]))(W:List Int)(k:Nat)(hW:W.length<=1000)(hk2:k<=W.length)(hk:kind=2)(q:Int)(hq:q<0)(F:BakF k a q)(r:LX × LEnv × St)(hr:Z2 prog C0 (n+800) 26 0 0 fu (plE l (.sl 1 2 0 k none) (i+1)) (plS rm m p nx st W)=some r):
  Z2 prog C0 (n+800) 26 0 0 (fu+1) (plE l (.sl 1 2 0 k none) i) (plS rm m p nx st W)=some r:=by
 have f1:decide (i<((Zf l).length:Int))=true:=by simp;omega
 have f2:LV.bool (if decide (i<((Zf l).length:Int))=true then true else false)=LV.bool true:=by simp;omega
 have f3:(Zf l)[i.toNat]? = some (LV.agg [.int i64 kind,.int i64 a,.isl 1 (bys b),.isl 1 (ints ks),.int i64 u]):=hx;have f4:0<=i/\i<((Zf l).length:Int):=by simp;omega
 have f5:LV.irp (LV.agg [.int i64 kind,.int i64 a,.isl 1 (bys b),.isl 1 (ints ks),.int i64 u])=LV.irp (LV.agg [.int i64 2,.int i64 a,.isl 1 (bys b),.isl 1 (ints ks),.int i64 u]):=by simp;omega
 have f6:=F (n+779);have f7:decide (0<=q)=false:=by simp;omega
 have f8:Wa (decide (0<=q)) LV.any (LV.bool false)=some (LV.bool false):=by simp;omega
 have f9:LV.int i64 (IntKind.wrap i64 (i+1))=LV.int i64 (i+1):=by simp (disch:=omega)
 have f10:=hr;exact dlp (fun h=>ai (congrArg some f1)<|ai (congrArg some f1)<|ai (f2)<|ai (f4)<|ai (f3)<|ai (f5)<|ai (f4)<|ai (f3)<|ai (f5)<|ai (f6)<|ai (congrArg some f7)<|ai (congrArg some f7)<|ai (congrArg some f7)<|ai (congrArg some f7)<|ai (Yp (st:=(St.mk 3 [(0,LObj.box 77 [.int i64 rm,.omap i64 (Zn m) (Xl m),.own 88 2 (Zg p)]),(1,LObj.box 106 [.ptr 0 0,.int i64 3,.int i64 nx,.int i64 st]),(2,LObj.row 3 1 (ints W))])) f8)<|ai (f9)<|ai (Eq.refl (Zc f10))<|ai (f10)<|h) (.i (.s (.s (.r [.a,.a,.a,.a,.a,.g true (.a),.g true (.a),.v (vOf f2) (.a)]) (.a)) (.s (.k (.s (.r [.a,.a,.v (vOf f5) (.e (rOf f3))]) (.k (.s (.a) (.c (.s (.a) (.c (.s (.a) (.c (.s (.r [.a,.a,.a,.a,.v (vOf f5) (.e (rOf f3)),.a,.a,.f (rOf f6)]) (.s (.r [.a,.a,.a,.g false (.a),.g false (.a),.g false (.a),.g false (.a),.t (rOf (Yp (st:=(St.mk 3 [(0,LObj.box 77 [.int i64 rm,.omap i64 (Zn m) (Xl m),.own 88 2 (Zg p)]),(1,LObj.box 106 [.ptr 0 0,.int i64 3,.int i64 nx,.int i64 st]),(2,LObj.row 3 1 (ints W))])) f8))]) (.a)))))))))))) (.r [.a,.v (vOf f9) (.a)]))) (.h [] (eOf f10) (Y2 f10) (rOf f10))) (by kernel_rfl)
theorem zq8_12(a0:Int)(q0:Nat)(q1:Nat):LV.pel q0 q1 (0+a0.toNat) 0=LV.pel q0 q1 (a0.toNat) 0:=by simp
theorem pl_kC(n fu:Nat)(hn:400<=n)(rm:Int)(m m':ML)(p p':PL)(nx st nx' st':Int)(l:List Act5)(hl:l.length<=60)(i:Int)(h0:0<=i)(hi:i<(l.length:Int))(kind a u:Int)(b ks:List Int)(hx:(Zf l)[i.toNat]? = some (.agg [.int .i64 kind,.int .i64 a,.isl 1 (bys b),.isl 1 (ints ks),.int .i64 u]))(W:List Int)(k:Nat)(hW:W.length<=1000)(hk2:k<=W.length)(hk:kind=2)(q:Int)(hq:0<=q)(hq2:q<(k:Int))(F:BakF k a q)(at_:Int)(hw:(ints W)[q.toNat]? = some (.int .i64 at_))(C:CutF rm m m' p nx st at_)(r:LX × LEnv × St)(hr:Z2 prog C0 (n+800) 26 0 0 fu (plE l (.sl 1 2 0 q.toNat none) (i+1)) (plS rm m' [] (at_+1) (st+1) W)=some r):
  Z2 prog C0 (n+800) 26 0 0 (fu+1) (plE l (.sl 1 2 0 k none) i) (plS rm m p nx st W)=some r:=by
 have f1:decide (i<((Zf l).length:Int))=true:=by simp;omega
 have f2:LV.bool (if decide (i<((Zf l).length:Int))=true then true else false)=LV.bool true:=by simp;omega
 have f3:(Zf l)[i.toNat]? = some (LV.agg [.int i64 kind,.int i64 a,.isl 1 (bys b),.isl 1 (ints ks),.int i64 u]):=hx;have f4:0<=i/\i<((Zf l).length:Int):=by simp;omega
 have f5:LV.irp (LV.agg [.int i64 kind,.int i64 a,.isl 1 (bys b),.isl 1 (ints ks),.int i64 u])=LV.irp (LV.agg [.int i64 2,.int i64 a,.isl 1 (bys b),.isl 1 (ints ks),.int i64 u]):=by simp;omega
 have f6:=F (n+779);have f7:decide (0<=q)=true:=by simp;omega
 have f8:LV.bool (if decide (0<=q)=true then decide (q<(↑k:Int)) else false)=LV.bool true:=by simp;omega
 have f9:0<=q/\q<(↑k:Int):=by omega
 have f10:=zq8_12 q 1 2;have f11:(ints W)[q.toNat]? = some (LV.int i64 at_):=hw;have f12:=C (n+739) (by omega)
 have f13:0+k<=List.length (ints W):=by simp;omega
 have f14:true=true:=by with_reducible rfl
 have f15:(0:Int)<=(0:Int)/\(0:Int)<=Option.getD (some q) (↑k:Int)/\Option.getD (some q) (↑k:Int)<=(↑k:Int):=by simp;omega
 have f16:LV.sl 1 2 0 (Int.toNat (Option.getD (some q) (↑k:Int))) none=LV.sl 1 2 0 (q.toNat) none:=by simp
 have f17:LV.int i64 (IntKind.wrap i64 (i+1))=LV.int i64 (i+1):=by simp (disch:=omega)
 have f18:=hr;exact dlp (fun h=>ai (congrArg some f1)<|ai (congrArg some f1)<|ai (f2)<|ai (f4)<|ai (f3)<|ai (f5)<|ai (f4)<|ai (f3)<|ai (f5)<|ai (f6)<|ai (congrArg some f7)<|ai (congrArg some f7)<|ai (congrArg some f7)<|ai (congrArg some f7)<|ai (f8)<|ai (f9)<|ai (f10)<|ai (f11)<|ai (f12)<|ai (f13)<|ai (f14)<|ai (f15)<|ai (f16)<|ai (f17)<|ai (Eq.refl (Zc f18))<|ai (f18)<|h) (.i (.s (.s (.r [.a,.a,.a,.a,.a,.g true (.a),.g true (.a),.v (vOf f2) (.a)]) (.a)) (.s (.k (.s (.r [.a,.a,.v (vOf f5) (.e (rOf f3))]) (.k (.s (.a) (.c (.s (.a) (.c (.s (.a) (.c (.s (.r [.a,.a,.a,.a,.v (vOf f5) (.e (rOf f3)),.a,.a,.f (rOf f6)]) (.s (.r [.a,.a,.a,.g true (.a),.g true (.a),.g true (.a),.g true (.a),.v (vOf f8) (.a)]) (.c (.s (.r [.a,.a,.a,.v (vOf f10) (.q),.e (rOf f11),.f (rOf f12)]) (.r [.a,.a,.v (vOf f16) (.q)])))))))))))))) (.r [.a,.v (vOf f17) (.a)]))) (.h [] (eOf f18) (Y2 f18) (rOf f18))) (by kernel_rfl)
theorem zq8_13(a0:List Act5):LV.int i64 ((Zf a0).length:Int)=LV.int i64 (a0.length:Int):=by simp
theorem pl_cNN(n fu:Nat)(hn:400<=n)(rm:Int)(m m':ML)(p p':PL)(nx st nx' st':Int)(l:List Act5)(hl:l.length<=60)(i:Int)(h0:0<=i)(hi:i<(l.length:Int))(kind a u:Int)(b ks:List Int)(hx:(Zf l)[i.toNat]? = some (.agg [.int .i64 kind,.int .i64 a,.isl 1 (bys b),.isl 1 (ints ks),.int .i64 u]))(hk:kind=5)(C:CraF rm m m' p ks u)(O:OpnF rm m' .nils (opS0 rm m' [] 3 nx' st'))(r:LX × LEnv × St)(hr:Z2 prog C0 (n+800) 26 0 0 fu (plE l .nils (i+1)) (plN rm m' [] nx' st')=some r):
  Z2 prog C0 (n+800) 26 0 0 (fu+1) (plE l .nils i) (plN rm m p nx st)=some r:=by
 have f1:decide (i<((Zf l).length:Int))=true:=by simp;omega
 have f2:LV.bool (if decide (i<((Zf l).length:Int))=true then true else false)=LV.bool true:=by simp;omega
 have f3:(Zf l)[i.toNat]? = some (LV.agg [.int i64 kind,.int i64 a,.isl 1 (bys b),.isl 1 (ints ks),.int i64 u]):=hx;have f4:0<=i/\i<((Zf l).length:Int):=by simp;omega
 have f5:LV.irp (LV.agg [.int i64 kind,.int i64 a,.isl 1 (bys b),.isl 1 (ints ks),.int i64 u])=LV.irp (LV.agg [.int i64 5,.int i64 a,.isl 1 (bys b),.isl 1 (ints ks),.int i64 u]):=by simp;omega
 have f6:=zq8_13 l;have f7:LV.bool (decide (i<((Zf l).length:Int)))=LV.bool true:=by simp;omega
 have f8:=zq8_5 m;have f9:=zq8_6 rm p 2 3;have f10:List.length (Zg p)=List.length p:=by simp
 have f11:=zq8_7 rm m p;have f12:=C (n+739) (by omega)
 have f13:=O (n+699) (by omega)
 have f14:LV.int i64 (IntKind.wrap i64 (i+1))=LV.int i64 (i+1):=by simp (disch:=omega)
 have f15:=hr;exact dlp (fun h=>ai (congrArg some f1)<|ai (congrArg some f1)<|ai (f2)<|ai (f4)<|ai (f3)<|ai (f5)<|ai (f6)<|ai (f7)<|ai (f7)<|ai (congrArg some f8)<|ai (congrArg some f9)<|ai (f4)<|ai (f3)<|ai (f5)<|ai (f4)<|ai (f3)<|ai (f5)<|ai (f10)<|ai (congrArg some f11)<|ai (f12)<|ai (f13)<|ai (f14)<|ai (Eq.refl (Zc f15))<|ai (f15)<|h) (.i (.s (.s (.r [.a,.a,.a,.a,.a,.g true (.a),.g true (.a),.v (vOf f2) (.a)]) (.a)) (.s (.k (.s (.r [.a,.a,.v (vOf f5) (.e (rOf f3))]) (.k (.s (.a) (.c (.s (.a) (.c (.s (.a) (.c (.s (.a) (.c (.s (.d [.y 34 (vOf f6),.y 35 (vOf f7),.y 36 (vOf f7),.x 2 (vOf f8),.x 0 (vOf f9)] [.a,.a,.a,.v (vOf f5) (.e (rOf f3)),.a,.a,.a,.a,.v (vOf f5) (.e (rOf f3)),.a,.a] [] [.fr .q [.x 0 (vOf f11)] (rOf f12)]) (.s (.a) (.s (.r [.a,.f (rOf f13)]) (.a))))))))))))))) (.r [.a,.v (vOf f14) (.a)]))) (.h [] (eOf f15) (Y2 f15) (rOf f15))) (by kernel_rfl)
theorem pl_cNS(n fu:Nat)(hn:400<=n)(rm:Int)(m m':ML)(p p':PL)(nx st nx' st':Int)(l:List Act5)(hl:l.length<=60)(i:Int)(h0:0<=i)(hi:i<(l.length:Int))(kind a u:Int)(b ks:List Int)(hx:(Zf l)[i.toNat]? = some (.agg [.int .i64 kind,.int .i64 a,.isl 1 (bys b),.isl 1 (ints ks),.int .i64 u]))(hk:kind=5)(C:CraF rm m m' p ks u)(ls:ML)(hls:ls.length<=1000)(O:OpnF rm m' (.sl 2 2 0 ls.length none) (opS rm m' [] 3 nx' st' (Zp ls)))(W2:List Int)(k2:Nat)(I:Z2 prog C0 (n+800) 26 1 0 (n+800) (plF l .nils i (.sl 2 2 0 ls.length none) 0) (plL0 rm m' [] nx' st' (Zp ls))=some (.exit 3,plE l (.sl 1 2 0 k2 none) i,plS rm m' [] nx' st' W2))(r:LX × LEnv × St)(hr:Z2 prog C0 (n+800) 26 0 0 fu (plE l (.sl 1 2 0 k2 none) (i+1)) (plS rm m' [] nx' st' W2)=some r):
  Z2 prog C0 (n+800) 26 0 0 (fu+1) (plE l .nils i) (plN rm m p nx st)=some r:=by
 have f1:decide (i<((Zf l).length:Int))=true:=by simp;omega
 have f2:LV.bool (if decide (i<((Zf l).length:Int))=true then true else false)=LV.bool true:=by simp;omega
 have f3:(Zf l)[i.toNat]? = some (LV.agg [.int i64 kind,.int i64 a,.isl 1 (bys b),.isl 1 (ints ks),.int i64 u]):=hx;have f4:0<=i/\i<((Zf l).length:Int):=by simp;omega
 have f5:LV.irp (LV.agg [.int i64 kind,.int i64 a,.isl 1 (bys b),.isl 1 (ints ks),.int i64 u])=LV.irp (LV.agg [.int i64 5,.int i64 a,.isl 1 (bys b),.isl 1 (ints ks),.int i64 u]):=by simp;omega
 have f6:=zq8_13 l;have f7:LV.bool (decide (i<((Zf l).length:Int)))=LV.bool true:=by simp;omega
 have f8:=zq8_5 m;have f9:=zq8_6 rm p 2 3;have f10:List.length (Zg p)=List.length p:=by simp
 have f11:=zq8_7 rm m p;have f12:=C (n+739) (by omega)
 have f13:=O (n+699) (by omega)
 have f14:=I
 have f15:LV.int i64 (IntKind.wrap i64 (i+1))=LV.int i64 (i+1):=by simp (disch:=omega)
 have f16:=hr;exact dlp (fun h=>ai (congrArg some f1)<|ai (congrArg some f1)<|ai (f2)<|ai (f4)<|ai (f3)<|ai (f5)<|ai (f6)<|ai (f7)<|ai (f7)<|ai (congrArg some f8)<|ai (congrArg some f9)<|ai (f4)<|ai (f3)<|ai (f5)<|ai (f4)<|ai (f3)<|ai (f5)<|ai (f10)<|ai (congrArg some f11)<|ai (f12)<|ai (f13)<|ai (Eq.refl (Zc f14))<|ai (f14)<|ai (f15)<|ai (Eq.refl (Zc f16))<|ai (f16)<|h) (.i (.s (.s (.r [.a,.a,.a,.a,.a,.g true (.a),.g true (.a),.v (vOf f2) (.a)]) (.a)) (.s (.k (.s (.r [.a,.a,.v (vOf f5) (.e (rOf f3))]) (.k (.s (.a) (.c (.s (.a) (.c (.s (.a) (.c (.s (.a) (.c (.s (.d [.y 34 (vOf f6),.y 35 (vOf f7),.y 36 (vOf f7),.x 2 (vOf f8),.x 0 (vOf f9)] [.a,.a,.a,.v (vOf f5) (.e (rOf f3)),.a,.a,.a,.a,.v (vOf f5) (.e (rOf f3)),.a,.a] [] [.fr .q [.x 0 (vOf f11)] (rOf f12)]) (.s (.a) (.s (.r [.a,.f (rOf f13)]) (.s (.a) (.s (.a) (.k (.l (.h [] (eOf f14) (Y2 f14) (rOf f14)))))))))))))))))))) (.r [.a,.v (vOf f15) (.a)]))) (.h [] (eOf f16) (Y2 f16) (rOf f16))) (by kernel_rfl)
theorem pl_oN(n fu:Nat)(hn:400<=n)(rm:Int)(m m':ML)(p p':PL)(nx st nx' st':Int)(l:List Act5)(hl:l.length<=60)(i:Int)(h0:0<=i)(hi:i<(l.length:Int))(kind a u:Int)(b ks:List Int)(hx:(Zf l)[i.toNat]? = some (.agg [.int .i64 kind,.int .i64 a,.isl 1 (bys b),.isl 1 (ints ks),.int .i64 u]))(g0:¬ kind=0)(g1:¬ kind=1)(g2:¬ kind=2)(g5:¬ kind=5)(r:LX × LEnv × St)(hr:Z2 prog C0 (n+800) 26 0 0 fu (plE l .nils (i+1)) (plN rm m p nx st)=some r):
  Z2 prog C0 (n+800) 26 0 0 (fu+1) (plE l .nils i) (plN rm m p nx st)=some r:=by
 have f1:decide (i<((Zf l).length:Int))=true:=by simp;omega
 have f2:LV.bool (if decide (i<((Zf l).length:Int))=true then true else false)=LV.bool true:=by simp;omega
 have f3:(Zf l)[i.toNat]? = some (LV.agg [.int i64 kind,.int i64 a,.isl 1 (bys b),.isl 1 (ints ks),.int i64 u]):=hx;have f4:0<=i/\i<((Zf l).length:Int):=by simp;omega
 have f5:decide (kind=0)=false:=by simp;omega
 have f6:decide (kind=1)=false:=by simp;omega
 have f7:decide (kind=2)=false:=by simp;omega
 have f8:decide (kind=5)=false:=by simp;omega
 have f9:LV.int i64 (IntKind.wrap i64 (i+1))=LV.int i64 (i+1):=by simp (disch:=omega)
 have f10:=hr;exact dlp (fun h=>ai (congrArg some f1)<|ai (congrArg some f1)<|ai (f2)<|ai (f4)<|ai (f3)<|ai (congrArg LV.bool f5)<|ai (congrArg LV.bool f6)<|ai (congrArg LV.bool f7)<|ai (congrArg LV.bool f8)<|ai (f9)<|ai (Eq.refl (Zc f10))<|ai (f10)<|h) (.i (.s (.s (.r [.a,.a,.a,.a,.a,.g true (.a),.g true (.a),.v (vOf f2) (.a)]) (.a)) (.s (.k (.s (.r [.a,.a,.e (rOf f3)]) (.k (.s (.a) (.b false (.s (.a) (.b false (.s (.a) (.b false (.s (.a) (.b false (.a)))))))))))) (.r [.a,.v (vOf f9) (.a)]))) (.h [] (eOf f10) (Y2 f10) (rOf f10))) (by kernel_rfl)
theorem zq8_14(a0:List Act5):Wa (decide ((a0.length:Int)<((Zf a0).length:Int))) LV.any (LV.bool false)=some (LV.bool false):=by simp
theorem pl_xN(n fu:Nat)(rm:Int)(m:ML)(p:PL)(nx st:Int)(l:List Act5):
  Z2 prog C0 (n+800) 26 0 0 (fu+1) (plE l .nils l.length) (plN rm m p nx st)=some (.exit 0,plX,plN rm m p nx st):=by
 have f1:=zq8_8 l;have f2:=zq8_14 l;exact dlp (fun h=>ai (congrArg some f1)<|ai (congrArg some f1)<|ai (Yp (st:=(St.mk 2 [(0,LObj.box 77 [.int i64 rm,.omap i64 (Zn m) (Xl m),.own 88 2 (Zg p)]),(1,LObj.box 106 [.ptr 0 0,.int i64 3,.int i64 nx,.int i64 st])])) f2)<|h) (.i (.s (.s (.r [.a,.a,.a,.a,.a,.g false (.a),.g false (.a),.t (rOf (Yp (st:=(St.mk 2 [(0,LObj.box 77 [.int i64 rm,.omap i64 (Zn m) (Xl m),.own 88 2 (Zg p)]),(1,LObj.box 106 [.ptr 0 0,.int i64 3,.int i64 nx,.int i64 st])])) f2))]) (.a)) .a) (.a)) (by kernel_rfl)
theorem pl_cSN(n fu:Nat)(hn:400<=n)(rm:Int)(m m':ML)(p p':PL)(nx st nx' st':Int)(l:List Act5)(hl:l.length<=60)(i:Int)(h0:0<=i)(hi:i<(l.length:Int))(kind a u:Int)(b ks:List Int)(hx:(Zf l)[i.toNat]? = some (.agg [.int .i64 kind,.int .i64 a,.isl 1 (bys b),.isl 1 (ints ks),.int .i64 u]))(W:List Int)(k:Nat)(hW:W.length<=1000)(hk2:k<=W.length)(hk:kind=5)(C:CraF rm m m' p ks u)(O:OpnF rm m' .nils (opS0 rm m' [] 3 nx' st'))(r:LX × LEnv × St)(hr:Z2 prog C0 (n+800) 26 0 0 fu (plE l .nils (i+1)) (plN rm m' [] nx' st')=some r):
  Z2 prog C0 (n+800) 26 0 0 (fu+1) (plE l (.sl 1 2 0 k none) i) (plS rm m p nx st W)=some r:=by
 have f1:decide (i<((Zf l).length:Int))=true:=by simp;omega
 have f2:LV.bool (if decide (i<((Zf l).length:Int))=true then true else false)=LV.bool true:=by simp;omega
 have f3:(Zf l)[i.toNat]? = some (LV.agg [.int i64 kind,.int i64 a,.isl 1 (bys b),.isl 1 (ints ks),.int i64 u]):=hx;have f4:0<=i/\i<((Zf l).length:Int):=by simp;omega
 have f5:LV.irp (LV.agg [.int i64 kind,.int i64 a,.isl 1 (bys b),.isl 1 (ints ks),.int i64 u])=LV.irp (LV.agg [.int i64 5,.int i64 a,.isl 1 (bys b),.isl 1 (ints ks),.int i64 u]):=by simp;omega
 have f6:=zq8_13 l;have f7:LV.bool (decide (i<((Zf l).length:Int)))=LV.bool true:=by simp;omega
 have f8:=zq8_5 m;have f9:=zq8_6 rm p 3 4;have f10:List.length (Zg p)=List.length p:=by simp
 have f11:=zq8_7 rm m p;have f12:=C (n+739) (by omega)
 have f13:=O (n+699) (by omega)
 have f14:LV.int i64 (IntKind.wrap i64 (i+1))=LV.int i64 (i+1):=by simp (disch:=omega)
 have f15:=hr;exact dlp (fun h=>ai (congrArg some f1)<|ai (congrArg some f1)<|ai (f2)<|ai (f4)<|ai (f3)<|ai (f5)<|ai (f6)<|ai (f7)<|ai (f7)<|ai (congrArg some f8)<|ai (congrArg some f9)<|ai (f4)<|ai (f3)<|ai (f5)<|ai (f4)<|ai (f3)<|ai (f5)<|ai (f10)<|ai (congrArg some f11)<|ai (f12)<|ai (f13)<|ai (f14)<|ai (Eq.refl (Zc f15))<|ai (f15)<|h) (.i (.s (.s (.r [.a,.a,.a,.a,.a,.g true (.a),.g true (.a),.v (vOf f2) (.a)]) (.a)) (.s (.k (.s (.r [.a,.a,.v (vOf f5) (.e (rOf f3))]) (.k (.s (.a) (.c (.s (.a) (.c (.s (.a) (.c (.s (.a) (.c (.s (.d [.y 34 (vOf f6),.y 35 (vOf f7),.y 36 (vOf f7),.x 3 (vOf f8),.x 0 (vOf f9)] [.a,.a,.a,.v (vOf f5) (.e (rOf f3)),.a,.a,.a,.a,.v (vOf f5) (.e (rOf f3)),.a,.a] [] [.fr .q [.x 0 (vOf f11)] (rOf f12)]) (.s (.a) (.s (.r [.a,.f (rOf f13)]) (.a))))))))))))))) (.r [.a,.v (vOf f14) (.a)]))) (.h [] (eOf f15) (Y2 f15) (rOf f15))) (by kernel_rfl)
theorem pl_cSS(n fu:Nat)(hn:400<=n)(rm:Int)(m m':ML)(p p':PL)(nx st nx' st':Int)(l:List Act5)(hl:l.length<=60)(i:Int)(h0:0<=i)(hi:i<(l.length:Int))(kind a u:Int)(b ks:List Int)(hx:(Zf l)[i.toNat]? = some (.agg [.int .i64 kind,.int .i64 a,.isl 1 (bys b),.isl 1 (ints ks),.int .i64 u]))(W:List Int)(k:Nat)(hW:W.length<=1000)(hk2:k<=W.length)(hk:kind=5)(C:CraF rm m m' p ks u)(ls:ML)(hls:ls.length<=1000)(O:OpnF rm m' (.sl 2 2 0 ls.length none) (opS rm m' [] 3 nx' st' (Zp ls)))(W2:List Int)(k2:Nat)(I:Z2 prog C0 (n+800) 26 1 0 (n+800) (plF l .nils i (.sl 2 2 0 ls.length none) 0) (plL0 rm m' [] nx' st' (Zp ls))=some (.exit 3,plE l (.sl 1 2 0 k2 none) i,plS rm m' [] nx' st' W2))(r:LX × LEnv × St)(hr:Z2 prog C0 (n+800) 26 0 0 fu (plE l (.sl 1 2 0 k2 none) (i+1)) (plS rm m' [] nx' st' W2)=some r):
  Z2 prog C0 (n+800) 26 0 0 (fu+1) (plE l (.sl 1 2 0 k none) i) (plS rm m p nx st W)=some r:=by
 have f1:decide (i<((Zf l).length:Int))=true:=by simp;omega
 have f2:LV.bool (if decide (i<((Zf l).length:Int))=true then true else false)=LV.bool true:=by simp;omega
 have f3:(Zf l)[i.toNat]? = some (LV.agg [.int i64 kind,.int i64 a,.isl 1 (bys b),.isl 1 (ints ks),.int i64 u]):=hx;have f4:0<=i/\i<((Zf l).length:Int):=by simp;omega
 have f5:LV.irp (LV.agg [.int i64 kind,.int i64 a,.isl 1 (bys b),.isl 1 (ints ks),.int i64 u])=LV.irp (LV.agg [.int i64 5,.int i64 a,.isl 1 (bys b),.isl 1 (ints ks),.int i64 u]):=by simp;omega
 have f6:=zq8_13 l;have f7:LV.bool (decide (i<((Zf l).length:Int)))=LV.bool true:=by simp;omega
 have f8:=zq8_5 m;have f9:=zq8_6 rm p 3 4;have f10:List.length (Zg p)=List.length p:=by simp
 have f11:=zq8_7 rm m p;have f12:=C (n+739) (by omega)
 have f13:=O (n+699) (by omega)
 have f14:=I
 have f15:LV.int i64 (IntKind.wrap i64 (i+1))=LV.int i64 (i+1):=by simp (disch:=omega)
 have f16:=hr;exact dlp (fun h=>ai (congrArg some f1)<|ai (congrArg some f1)<|ai (f2)<|ai (f4)<|ai (f3)<|ai (f5)<|ai (f6)<|ai (f7)<|ai (f7)<|ai (congrArg some f8)<|ai (congrArg some f9)<|ai (f4)<|ai (f3)<|ai (f5)<|ai (f4)<|ai (f3)<|ai (f5)<|ai (f10)<|ai (congrArg some f11)<|ai (f12)<|ai (f13)<|ai (Eq.refl (Zc f14))<|ai (f14)<|ai (f15)<|ai (Eq.refl (Zc f16))<|ai (f16)<|h) (.i (.s (.s (.r [.a,.a,.a,.a,.a,.g true (.a),.g true (.a),.v (vOf f2) (.a)]) (.a)) (.s (.k (.s (.r [.a,.a,.v (vOf f5) (.e (rOf f3))]) (.k (.s (.a) (.c (.s (.a) (.c (.s (.a) (.c (.s (.a) (.c (.s (.d [.y 34 (vOf f6),.y 35 (vOf f7),.y 36 (vOf f7),.x 3 (vOf f8),.x 0 (vOf f9)] [.a,.a,.a,.v (vOf f5) (.e (rOf f3)),.a,.a,.a,.a,.v (vOf f5) (.e (rOf f3)),.a,.a] [] [.fr .q [.x 0 (vOf f11)] (rOf f12)]) (.s (.a) (.s (.r [.a,.f (rOf f13)]) (.s (.a) (.s (.a) (.k (.l (.h [] (eOf f14) (Y2 f14) (rOf f14)))))))))))))))))))) (.r [.a,.v (vOf f15) (.a)]))) (.h [] (eOf f16) (Y2 f16) (rOf f16))) (by kernel_rfl)
theorem pl_oS(n fu:Nat)(hn:400<=n)(rm:Int)(m m':ML)(p p':PL)(nx st nx' st':Int)(l:List Act5)(hl:l.length<=60)(i:Int)(h0:0<=i)(hi:i<(l.length:Int))(kind a u:Int)(b ks:List Int)(hx:(Zf l)[i.toNat]? = some (.agg [.int .i64 kind,.int .i64 a,.isl 1 (bys b),.isl 1 (ints ks),.int .i64 u]))(W:List Int)(k:Nat)(hW:W.length<=1000)(hk2:k<=W.length)(g0:¬ kind=0)(g1:¬ kind=1)(g2:¬ kind=2)(g5:¬ kind=5)(r:LX × LEnv × St)(hr:Z2 prog C0 (n+800) 26 0 0 fu (plE l (.sl 1 2 0 k none) (i+1)) (plS rm m p nx st W)=some r):
  Z2 prog C0 (n+800) 26 0 0 (fu+1) (plE l (.sl 1 2 0 k none) i) (plS rm m p nx st W)=some r:=by
 have f1:decide (i<((Zf l).length:Int))=true:=by simp;omega
 have f2:LV.bool (if decide (i<((Zf l).length:Int))=true then true else false)=LV.bool true:=by simp;omega
 have f3:(Zf l)[i.toNat]? = some (LV.agg [.int i64 kind,.int i64 a,.isl 1 (bys b),.isl 1 (ints ks),.int i64 u]):=hx;have f4:0<=i/\i<((Zf l).length:Int):=by simp;omega
 have f5:decide (kind=0)=false:=by simp;omega
 have f6:decide (kind=1)=false:=by simp;omega
 have f7:decide (kind=2)=false:=by simp;omega
 have f8:decide (kind=5)=false:=by simp;omega
 have f9:LV.int i64 (IntKind.wrap i64 (i+1))=LV.int i64 (i+1):=by simp (disch:=omega)
 have f10:=hr;exact dlp (fun h=>ai (congrArg some f1)<|ai (congrArg some f1)<|ai (f2)<|ai (f4)<|ai (f3)<|ai (congrArg LV.bool f5)<|ai (congrArg LV.bool f6)<|ai (congrArg LV.bool f7)<|ai (congrArg LV.bool f8)<|ai (f9)<|ai (Eq.refl (Zc f10))<|ai (f10)<|h) (.i (.s (.s (.r [.a,.a,.a,.a,.a,.g true (.a),.g true (.a),.v (vOf f2) (.a)]) (.a)) (.s (.k (.s (.r [.a,.a,.e (rOf f3)]) (.k (.s (.a) (.b false (.s (.a) (.b false (.s (.a) (.b false (.s (.a) (.b false (.a)))))))))))) (.r [.a,.v (vOf f9) (.a)]))) (.h [] (eOf f10) (Y2 f10) (rOf f10))) (by kernel_rfl)
theorem pl_xS(n fu:Nat)(rm:Int)(m:ML)(p:PL)(nx st:Int)(l:List Act5)(W:List Int)(k:Nat)(hW:W.length<=1000)(hk2:k<=W.length):
  Z2 prog C0 (n+800) 26 0 0 (fu+1) (plE l (.sl 1 2 0 k none) l.length) (plS rm m p nx st W)=some (.exit 0,plX,plN rm m p nx st):=by
 have f1:=zq8_8 l;have f2:=zq8_14 l;exact dlp (fun h=>ai (congrArg some f1)<|ai (congrArg some f1)<|ai (Yp (st:=(St.mk 3 [(0,LObj.box 77 [.int i64 rm,.omap i64 (Zn m) (Xl m),.own 88 2 (Zg p)]),(1,LObj.box 106 [.ptr 0 0,.int i64 3,.int i64 nx,.int i64 st]),(2,LObj.row 3 1 (ints W))])) f2)<|h) (.i (.s (.s (.r [.a,.a,.a,.a,.a,.g false (.a),.g false (.a),.t (rOf (Yp (st:=(St.mk 3 [(0,LObj.box 77 [.int i64 rm,.omap i64 (Zn m) (Xl m),.own 88 2 (Zg p)]),(1,LObj.box 106 [.ptr 0 0,.int i64 3,.int i64 nx,.int i64 st]),(2,LObj.row 3 1 (ints W))])) f2))]) (.a)) .a) (.a)) (by kernel_rfl)
theorem pi_0(n fu:Nat)(hn:400<=n)(rm:Int)(m:ML)(p:PL)(nx st:Int)(l:List Act5)(i:Int)(ls:ML)(hls:ls.length<=1000)(a:Int)(b:List Int)(j:Int)(h0:0<=j)(hx:(Zp ls)[j.toNat]? = some (.agg [.int .i64 a,.isl 1 (bys b)]))(hj:j<(ls.length:Int))(r:LX × LEnv × St)(hr:Z2 prog C0 (n+800) 26 1 0 fu (plF l (.sl 1 2 0 1 none) i (.sl 2 3 0 ls.length none) (j+1)) (plL rm m p nx st [.int .i64 a] (Zp ls))=some r):
  Z2 prog C0 (n+800) 26 1 0 (fu+1) (plF l .nils i (.sl 2 2 0 ls.length none) j) (plL0 rm m p nx st (Zp ls))=some r:=by
 have f1:decide (j<(ls.length:Int))=true:=by simp;omega
 have f2:0<=j/\j<(ls.length:Int):=by omega
 have f3:=zq8_12 j 2 2;have f4:(Zp ls)[j.toNat]? = some (LV.agg [.int i64 a,.isl 1 (bys b)]):=hx;have f5:LV.int i64 (IntKind.wrap i64 (j+1))=LV.int i64 (j+1):=by simp (disch:=omega)
 have f6:=zq8_9 a;have f7:=hr;exact dlp (fun h=>ai (congrArg LV.bool f1)<|ai (f2)<|ai (f3)<|ai (f4)<|ai (f5)<|ai (congrArg some f6)<|ai (Eq.refl (Zc f7))<|ai (f7)<|h) (.i (.s (.s (.a) (.b true (.a))) (.s (.k (.r [.a,.a,.a,.v (vOf f3) (.q),.a,.e (rOf f4)])) (.r [.a,.v (vOf f5) (.a)]))) (.h [.x 2 (vOf f6)] (eOf f7) (Y2 f7) (rOf f7))) (by kernel_rfl)
theorem pi_s(n fu:Nat)(hn:400<=n)(rm:Int)(m:ML)(p:PL)(nx st:Int)(l:List Act5)(i:Int)(ls:ML)(hls:ls.length<=1000)(W:List Int)(j a:Int)(h0:0<=j)(b:List Int)(hx:(Zp ls)[j.toNat]? = some (.agg [.int .i64 a,.isl 1 (bys b)]))(hj:j<(ls.length:Int))(k:Nat)(hW:W.length=k)(hk:k<=1000)(r:LX × LEnv × St)(hr:Z2 prog C0 (n+800) 26 1 0 fu (plF l (.sl 1 2 0 (k+1) none) i (.sl 2 3 0 ls.length none) (j+1)) (plL rm m p nx st (ints W++[.int .i64 a]) (Zp ls))=some r):
  Z2 prog C0 (n+800) 26 1 0 (fu+1) (plF l (.sl 1 2 0 k none) i (.sl 2 3 0 ls.length none) j) (plL rm m p nx st (ints W) (Zp ls))=some r:=by
 have f1:decide (j<(ls.length:Int))=true:=by simp;omega
 have f2:0<=j/\j<(ls.length:Int):=by omega
 have f3:=zq8_12 j 2 3;have f4:(Zp ls)[j.toNat]? = some (LV.agg [.int i64 a,.isl 1 (bys b)]):=hx;have f5:1<=1:=by omega
 have f6:List.length (ints W)=k/\(k+1)*8<=140737488355328:=by simp;omega
 have f7:=zq8_11 W a;have f8:=zq8_10 a;have f9:LV.int i64 (IntKind.wrap i64 (j+1))=LV.int i64 (j+1):=by simp (disch:=omega)
 have f10:=hr;exact dlp (fun h=>ai (congrArg LV.bool f1)<|ai (f2)<|ai (f3)<|ai (f4)<|ai (f5)<|ai (f6)<|ai (congrArg some f7)<|ai (congrArg some f8)<|ai (f9)<|ai (Eq.refl (Zc f10))<|ai (f10)<|h) (.i (.s (.s (.a) (.b true (.a))) (.s (.k (.r [.a,.a,.a,.v (vOf f3) (.q),.a,.e (rOf f4),.a,.x 4 (vOf f8) (.x 5 (vOf f7) (.q))])) (.r [.a,.v (vOf f9) (.a)]))) (.h [] (eOf f10) (Y2 f10) (rOf f10))) (by kernel_rfl)
theorem pi_xS(n fu:Nat)(hn:400<=n)(rm:Int)(m:ML)(p:PL)(nx st:Int)(l:List Act5)(i:Int)(ls:ML)(hls:ls.length<=1000)(W:List Int)(k:Nat):Z2 prog C0 (n+800) 26 1 0 (fu+1) (plF l (.sl 1 2 0 k none) i (.sl 2 3 0 ls.length none) ls.length) (plL rm m p nx st (ints W) (Zp ls))=some (.exit 3,plE l (.sl 1 2 0 k none) i,plS rm m p nx st W):=by
 have f1:decide ((ls.length:Int)<(ls.length:Int))=false:=by simp
 exact dlp (fun h=>ai (congrArg LV.bool f1)<|h) (.i (.s (.s (.a) (.b false (.a))) .a) (.a)) (by kernel_rfl)
def bk(k a:Int):Int:=i64.wrap (k+1-i64.wrap ((IntKind.u64.wrap a).tmod 9))
theorem back_raw(j:Nat)(k a:Int)(h0:0<=k)(h1:k<=100000):Zd prog C0 (Z3 prog C0 (j+20)) (j+20) 52 [.int .i64 k,.int .i64 a] ⟨0,[]⟩=some (.int .i64 (i64.wrap (k+1-i64.wrap ((IntKind.u64.wrap a).tmod 9))),⟨0,[]⟩):=by
 have f1:LV.int i64 (IntKind.wrap i64 (k+1))=LV.int i64 (k+1):=by simp (disch:=omega)
 exact drn (fun h=>ai (f1)<|h) (.s (.a) (.s (.r [.a,.v (vOf f1) (.a)]) (.a))) [] .a (by kernel_rfl)
theorem back_ok(j:Nat)(k a:Int)(h0:0<=k)(h1:k<=100000):Zd prog C0 (Z3 prog C0 (j+20)) (j+20) 52 [.int .i64 k,.int .i64 a] ⟨0,[]⟩=some (.int .i64 (bk k a),⟨0,[]⟩):=back_raw j k a h0 h1
theorem pl_thru(n:Nat)(hn:400<=n)(l:List Act5)(m:ML)(p:PL)(nx st:Int)(O:OpnF 4000 [] .nils (opS0 4000 [] [] 3 3 1))(L:Z2 prog C0 (n+800) 26 0 0 (n+800) (plE l .nils 0) (plN 4000 [] [] 3 1)=some (.exit 0,plX,plN 4000 m p nx st)):
  Zd prog C0 (Z3 prog C0 (n+800)) (n+800) 26 [.isl 5 (Zf l)] ⟨0,[]⟩=some (.tup [.ptr 0 0,.ptr 1 0],⟨2,[(0,dO 4000 m p),(1,chD 3 nx st)]⟩):=by
 have f1:=new_ok (n+789) 4000 (by omega) (by omega)
 have f2:=O (n+699) (by omega)
 have f3:=L
 exact drn (fun h=>ai (f1)<|ai (f2)<|ai (Eq.refl (Zc f3))<|ai (f3)<|h) (.s (.a) (.s (.r [.f (rOf f1)]) (.s (.a) (.s (.r [.a,.f (rOf f2)]) (.s (.a) (.s (.s (.a) (.k (.l (.h [] (eOf f3) (Y2 f3) (rOf f3))))) (.a))))))) [] .a (by kernel_rfl)
end Go.Mac
namespace Go.Mac
open Go Go.Eng Go.Proofs
set_option maxRecDepth 100000
theorem oneS_lt{rd:Int->List Int}{at_:Int}:∀ {k:Nat} {n want last:Int} {o r:List Int} {c s:Int},oneS rd at_ k n want last o=some (r,c,s)->n<c
 | 0,n,want,last,o,r,c,s,h=>by simp [oneS] at h
 | k+1,n,want,last,o,r,c,s,h=>by
  unfold oneS at h;simp only at h
  split at h
  ·simp at h
  ·split at h
   ·simp only [Option.some.injEq,Prod.mk.injEq] at h;omega
   ·have:=oneS_lt h;omega
theorem oneS_congr{rd rd':Int->List Int}{at_:Int}:∀ {k:Nat} {n want last:Int} {o r:List Int} {c s:Int},oneS rd at_ k n want last o=some (r,c,s)->(∀ a,at_+n<=a->a<at_+c->rd' a=rd a)->oneS rd' at_ k n want last o=some (r,c,s)
 | 0,n,want,last,o,r,c,s,h,_=>by simp [oneS] at h
 | k+1,n,want,last,o,r,c,s,h,g=>by
  have hl:=oneS_lt h;have e:=g (at_+n) (by omega) (by omega)
  unfold oneS at h ⊢;simp only [e] at h ⊢
  split at h
  ·simp at h
  ·rename_i hn
   rw [if_neg hn]
   split at h
   ·rename_i h4;rw [if_pos h4];exact h
   ·rename_i h4;rw [if_neg h4];exact oneS_congr h fun a a1 a2=>g a (by omega) a2
theorem oneX_congr{rd rd':Int->List Int}{a last:Int}{r:List Int}{c s:Int}(h:Xs rd a last=some (r,c,s))(g:∀ x,a<=x->x<a+c->rd' x=rd x):1<=c/\Xs rd' a last=some (r,c,s):=by
 have hc:1<=c:=by
  unfold Xs at h;simp only at h
  split at h
  ·simp at h
  ·split at h
   ·simp only [Option.some.injEq,Prod.mk.injEq] at h;omega
   ·have:=oneS_lt h;omega
 refine ⟨hc,?_⟩;have e:=g a (by omega) (by omega)
 unfold Xs at h ⊢;simp only [e] at h ⊢
 split at h
 ·simp at h
 ·rename_i hn
  rw [if_neg hn]
  split at h
  ·rename_i h4;rw [if_pos h4];exact h
  ·rename_i h4;rw [if_neg h4];exact oneS_congr h fun x a1 a2=>g x (by omega) a2
theorem oneS_stamps{rd:Int->List Int}{at_:Int}:∀ {k:Nat} {n want last:Int} {o r:List Int} {c s:Int},oneS rd at_ k n want last o=some (r,c,s)->0<want ->
  s=last+(c-n)/\∀ j,n<=j->j<c->(Y9 (rd (at_+j))).t=last+1+(j-n)/\0<(Y9 (rd (at_+j))).lf
 | 0,n,want,last,o,r,c,s,h,_=>by simp [oneS] at h
 | k+1,n,want,last,o,r,c,s,h,hw=>by
  unfold oneS at h;simp only at h
  split at h
  ·simp at h
  ·rename_i hn
   simp only [not_or,Decidable.not_not] at hn;obtain ⟨n1,n2,n3,n4⟩:=hn
   split at h
   ·simp only [Option.some.injEq,Prod.mk.injEq] at h
    obtain ⟨_,rfl,rfl⟩:=h
    refine ⟨by omega,fun j j1 j2=>?_⟩
    obtain rfl:j=n:=by omega
    exact ⟨by omega,by omega⟩
   ·obtain ⟨q1,q2⟩:=oneS_stamps h (by omega)
    refine ⟨by omega,fun j j1 j2=>?_⟩
    by_cases hj:j=n
    ·subst hj;exact ⟨by omega,by omega⟩
    ·have:=q2 j (by omega) j2;omega
theorem Xb{rd:Int->List Int}{a last:Int}{r:List Int}{c s:Int}(h:Xs rd a last=some (r,c,s)):
  1<=c/\last<s-c+1/\(Y9 (rd a)).g=true/\∀ j,0<=j->j<c->(Y9 (rd (a+j))).t=s-c+1+j/\(0<j->0<(Y9 (rd (a+j))).lf):=by
 unfold Xs at h;simp only at h
 split at h
 ·simp at h
 ·rename_i hn
  simp only [not_or,Int.not_le,Bool.not_eq_false] at hn;obtain ⟨n1,n2,n3⟩:=hn
  split at h
  ·simp only [Option.some.injEq,Prod.mk.injEq] at h
   obtain ⟨_,rfl,rfl⟩:=h
   refine ⟨by omega,by omega,n1,fun j j1 j2=>?_⟩
   obtain rfl:j=0:=by omega
   rw [Int.add_zero];exact ⟨by omega,fun h=>by omega⟩
  ·obtain ⟨q1,q2⟩:=oneS_stamps h (by omega)
   have q3:=oneS_lt h;refine ⟨by omega,by omega,n1,fun j j1 j2=>?_⟩
   by_cases hj:j=0
   ·subst hj;rw [Int.add_zero];exact ⟨by omega,fun h=>by omega⟩
   ·have:=q2 j (by omega) j2
    exact ⟨by omega,fun _=>this.2⟩
inductive Run (rd:Int->List Int):Int->Int->ML->Int->Int->Prop where
 | nil (a s:Int):Run rd a s [] a s
 | cons {a s:Int} {o:List Int} {c s':Int} {l:ML} {b t:Int} (h:Xs rd a s=some (o,c,s')) (k:Run rd (a+c) s' l b t):Run rd a s (if o.length=0 then l else (a,o)::l) b t
theorem Run.le{rd:Int->List Int}{a s:Int}{l:ML}{b t:Int}(h:Run rd a s l b t):a<=b/\s<=t:=by
 induction h with
 | nil=>omega
 | cons h k ih=>have:=Xb h;omega
theorem Run.congr{rd rd':Int->List Int}{a s:Int}{l:ML}{b t:Int}(h:Run rd a s l b t)(g:∀ x,a<=x->x<b->rd' x=rd x):Run rd' a s l b t:=by
 induction h with
 | nil=>exact .nil _ _
 | cons h k ih =>
  have h1:=Xb h;have h2:=k.le;exact .cons (oneX_congr h fun x x1 x2=>g x x1 (by omega)).2 (ih fun x x1 x2=>g x (by omega) x2)
theorem Run.links{rd:Int->List Int}{a s:Int}{l:ML}{b t:Int}(h:Run rd a s l b t)(hn:Xs rd b t=none):∀ k:Nat,b-a<=k->Zr rd k a s=(l,b,t):=by
 induction h with
 | nil a s =>
  intro k hk
  cases k with
  | zero=>rfl
  | succ k=>simp only [Zr,hn]
 | cons h k ih =>
  intro j hj;have h1:=Xb h;have h2:=k.le
  cases j with
  | zero=>omega
  | succ j =>
   have:=ih hn j (by omega)
   simp only [Zr,h,this]
theorem Run.app{rd:Int->List Int}{a s:Int}{l:ML}{b t:Int}(h:Run rd a s l b t){l2:ML}{e u:Int}(k:Run rd b t l2 e u):Run rd a s (l++l2) e u:=by
 induction h with
 | nil=>exact k
 | cons h k' ih =>
  have:=Run.cons h (ih k)
  split at this <;> rename_i hz <;> simp only [hz,if_true,if_false] <;> exact this
theorem Run.snoc{rd:Int->List Int}{a s:Int}{l:ML}{b t:Int}(h:Run rd a s l b t){o:List Int}{c u:Int}(k:Xs rd b t=some (o,c,u))(ho:0<o.length):Run rd a s (l++[(b,o)]) (b+c) u:=by
 have:=Run.cons k (.nil _ _);rw [if_neg (by omega)] at this
 exact h.app this
theorem Run.mark{rd:Int->List Int}{a s:Int}{l:ML}{b t:Int}(h:Run rd a s l b t){c u:Int}(k:Xs rd b t=some ([],c,u)):Run rd a s l (b+c) u:=by
 have:=Run.cons k (.nil _ _);rw [if_pos List.length_nil] at this;simpa using h.app this
theorem Run.split{rd:Int->List Int}{a s:Int}{l:ML}{b t:Int}(h:Run rd a s l b t):∀ {k:Nat} {x:Int} {o:List Int},l[k]? = some (x,o)->∃ s1,Run rd a s (l.take k) x s1/\s1<t/\a<=x/\x<b:=by
 induction h with
 | nil=>intro k x o h;simp at h
 | @cons a s o c s' l b t h k ih =>
  intro j x q hx;have h1:=Xb h;have h2:=k.le
  by_cases hz:o.length=0
  ·rw [if_pos hz] at hx ⊢
   obtain ⟨s1,g1,g2,g3,g4⟩:=ih hx;have:=Run.cons h g1;rw [if_pos hz] at this;exact ⟨s1,this,g2,by omega,g4⟩
  ·rw [if_neg hz] at hx ⊢
   cases j with
   | zero =>
    simp only [List.getElem?_cons_zero,Option.some.injEq,Prod.mk.injEq] at hx;obtain ⟨rfl,rfl⟩:=hx;exact ⟨s,.nil _ _,by omega,by omega,by omega⟩
   | succ j =>
    obtain ⟨s1,g1,g2,g3,g4⟩:=ih (by simpa using hx)
    have:=Run.cons h g1;rw [if_neg hz] at this;exact ⟨s1,this,g2,by omega,g4⟩
theorem links_run{rd:Int->List Int}{A:Int}(hz:∀ a last,A<=a->0<=last->Xs rd a last=none):∀ (k:Nat) (a s:Int),A<=a+k->0<=s->Run rd a s (Zr rd k a s).1 (Zr rd k a s).2.1 (Zr rd k a s).2.2/\Xs rd (Zr rd k a s).2.1 (Zr rd k a s).2.2=none
 | 0,a,s,h,hs=>⟨.nil _ _,hz a s (by omega) hs⟩
 | k+1,a,s,h,hs=>by
  cases he:Xs rd a s with
  | none=>simp only [Zr,he];exact ⟨.nil _ _,trivial⟩
  | some r =>
   obtain ⟨o,c,s'⟩:=r
   have h1:=Xb he;obtain ⟨i1,i2⟩:=links_run hz k (a+c) s' (by omega) (by omega)
   simp only [Zr,he];exact ⟨.cons he i1,i2⟩
end Go.Mac
namespace Go.Mac
open Go Go.Eng Go.Proofs Go.Mac.Nd
open Go.IntKind (i64)
open Go.Proofs.Try (prog)
set_option maxRecDepth 100000
def z7(x:Int):List Int:=[0,0,0,0,0,0,0,x]
structure Sml (t:Int) (b:List Int):Prop where
 len:b.length=64
 by_:byB b
 hd:∃ x,0<=x/\x<t/\b.take 8=z7 x
 tl:∃ y,0<=y/\y<t/\b.drop 56=z7 y
theorem Sml.mono{t u:Int}{b:List Int}(h:Sml t b)(hu:t<=u):Sml u b:=by
 obtain ⟨x,h0,h1,h2⟩:=h.hd;obtain ⟨y,h3,h4,h5⟩:=h.tl;exact ⟨h.len,h.by_,⟨x,h0,by omega,h2⟩,⟨y,h3,by omega,h5⟩⟩
theorem numB_z7{x:Int}(h0:0<=x)(h1:x<256):Xt (z7 x)=x:=by
 have e:numF (z7 x)=x:=by
  unfold numF;simp [atI,z7]
 unfold Xt;rw [e,if_neg (by omega)]
theorem Sml.hn{t:Int}{b:List Int}(h:Sml t b)(ht:t<=256):0<=Xt b/\Xt b<t/\b.take 8=z7 (Xt b):=by
 obtain ⟨x,h0,h1,h2⟩:=h.hd;have:Xt b=x:=by rw [<- numB_take,h2,numB_z7 h0 (by omega)]
 rw [this];exact ⟨h0,h1,h2⟩
theorem Sml.tn{t:Int}{b:List Int}(h:Sml t b)(ht:t<=256):0<=Xt (b.drop 56)/\Xt (b.drop 56)<t/\b.drop 56=z7 (Xt (b.drop 56)):=by
 obtain ⟨x,h0,h1,h2⟩:=h.tl;have:Xt (b.drop 56)=x:=by rw [h2,numB_z7 h0 (by omega)]
 rw [this];exact ⟨h0,h1,h2⟩
theorem Sml.cell{t:Int}{b:List Int}(h:Sml t b)(h0:0<t)(ht:t<=256):0<=(Y9 b).t/\(Y9 b).t<t:=by
 have:=h.hn ht;unfold Y9
 split
 ·exact ⟨this.1,this.2.1⟩
 ·simp;omega
theorem Sml.stop{rd:Int->List Int}{a t last:Int}(h:Sml t (rd a))(h0:0<t)(ht:t<=256)(hl:t<=last+1):Xs rd a last=none:=by
 have:=h.cell h0 ht;unfold Xs;simp only;rw [if_pos (.inr (.inr (by omega)))]
theorem Sml.zero{t:Int}(h0:0<t):Sml t (List.replicate 64 0):=⟨by simp,byB.rep 64,⟨0,by omega,h0,rfl⟩,⟨0,by omega,h0,rfl⟩⟩
theorem dig_small{t:Int}(h0:0<=t)(h1:t<256):dig t=z7 t:=by
 have e:t.fdiv 256=0:=by rw [Int.fdiv_eq_ediv_of_nonneg _ (by omega)];omega
 have w:u8 t=t:=by unfold u8 IntKind.wrap;simp [IntKind.bits,IntKind.signed];omega
 unfold dig;rw [e,w]
 rfl
theorem fillX_eq{t h:Int}(h0:0<=t)(h1:t<256){b:List Int}(hb:b.length<=46):
  X1 t h b=z7 t++[u8 (h.fdiv 256),u8 h]++(b++List.replicate (46-b.length) 0)++z7 t:=by
 unfold X1;rw [dig_small h0 h1];have e1:((Z6 (List.replicate 64 0) 0 (z7 t)).set 8 (u8 (h.fdiv 256))).set 9 (u8 h)=(z7 t++[u8 (h.fdiv 256),u8 h])++List.replicate 54 0:=rfl;rw [e1];generalize u8 (h.fdiv 256)=x;generalize u8 h=y;have hA:(z7 t++[x,y]).length=10:=rfl;generalize z7 t++[x,y]=A at *;have hz:(z7 t).length=8:=rfl;have e2:Z6 (A++List.replicate 54 0) 10 b=A++b++List.replicate (54-b.length) 0:=by
  unfold Z6;rw [List.take_append_of_le_length (by omega),List.take_of_length_le (by omega),List.drop_append,List.drop_of_length_le (by omega),List.nil_append,hA,List.drop_replicate]
  congr 2;omega
 rw [e2];unfold Z6;rw [hz,List.drop_of_length_le (by simp;omega),List.append_nil,List.take_append,List.take_of_length_le (by simp;omega)]
 rw [List.take_replicate,List.length_append,hA,Nat.min_eq_left (by omega),List.append_assoc A]
 congr 4;omega
theorem cellS_fill{t h:Int}(h0:0<=t)(h1:t<256){b:List Int}(hb:b.length<=46)(g:Int)(hg0:0<=g)(hg:g<65536)(hh:h=g):
  Y9 (X1 t h b)=⟨t,decide (32768<=g),g % 32768,b++List.replicate (46-b.length) 0⟩:=by
 subst hh;rw [fillX_eq h0 h1 hb];have w1:u8 (h.fdiv 256)=h/256:=by
  rw [Int.fdiv_eq_ediv_of_nonneg _ (by omega)]
  unfold u8 IntKind.wrap;simp [IntKind.bits,IntKind.signed];omega
 have w2:u8 h=h % 256:=by unfold u8 IntKind.wrap;simp [IntKind.bits,IntKind.signed]
 rw [w1,w2];have hP:(b++List.replicate (46-b.length) (0:Int)).length=46:=by simp;omega
 generalize b++List.replicate (46-b.length) (0:Int)=P at *;have e1:(z7 t++[h/256,h % 256]++P++z7 t).take 8=z7 t:=rfl;have e2:(z7 t++[h/256,h % 256]++P++z7 t).drop 56=z7 t:=by
  rw [List.drop_append,List.drop_of_length_le (by simp [z7,hP]),List.nil_append]
  simp [z7,hP]
 have e3:((z7 t++[h/256,h % 256]++P++z7 t).drop 10).take 46=P:=by
  show (P++z7 t).take 46=P
  rw [<- hP,List.take_left]
 unfold Y9;rw [e1,e2,if_pos rfl,e3];have e4:Xt (z7 t++[h/256,h % 256]++P++z7 t)=t:=by rw [<- numB_take,e1,numB_z7 h0 h1]
 have e5:atI (z7 t++[h/256,h % 256]++P++z7 t) 8=h/256:=rfl;have e6:atI (z7 t++[h/256,h % 256]++P++z7 t) 9=h % 256:=rfl;rw [e4,e5,e6]
 congr 1
 ·congr 1;apply propext;omega
 ·omega
theorem fillX_sml{t h:Int}(h0:0<=t)(h1:t<256){b:List Int}(hb:b.length<=46)(hB:byB b):Sml (t+1) (X1 t h b):=by
 have hlen:=Xv t h b hb;rw [fillX_eq h0 h1 hb] at hlen ⊢;have hP:(b++List.replicate (46-b.length) (0:Int)).length=46:=by simp;omega
 have hPB:byB (b++List.replicate (46-b.length) (0:Int)):=hB.app (byB.rep _);generalize b++List.replicate (46-b.length) (0:Int)=P at *;have hz:byB (z7 t):=by
  intro x hx;simp only [z7,List.mem_cons,List.not_mem_nil,or_false] at hx;omega
 have w:∀ n,0<=u8 n/\u8 n<256:=by
  intro n;unfold u8 IntKind.wrap;simp [IntKind.bits,IntKind.signed];omega
 have hy:byB [u8 (h.fdiv 256),u8 h]:=by
  intro x hx;simp only [List.mem_cons,List.not_mem_nil,or_false] at hx
  rcases hx with rfl | rfl <;> exact w _
 refine ⟨hlen,((hz.app hy).app hPB).app hz,⟨t,h0,by omega,rfl⟩,⟨t,h0,by omega,?_⟩⟩
 rw [List.drop_append,List.drop_of_length_le (by simp [z7,hP]),List.nil_append]
 simp [z7,hP]
theorem or15(L:Nat)(h:L<32768):bits .or .i64 32768 (L:Int)=32768+L/\bits .or .i64 0 (L:Int)=L:=by
 have e:∀ a:Nat,(BitVec.ofInt 64 (a:Int))=BitVec.ofNat 64 a:=fun a=>by simp
 constructor
 ·unfold bits
  have h3:(BitVec.ofInt 64 32768 ||| BitVec.ofInt 64 (L:Int)).toNat=32768+L:=by
   rw [show (32768:Int)=((32768:Nat):Int) from rfl,e,e,BitVec.toNat_or,BitVec.toNat_ofNat,BitVec.toNat_ofNat,Nat.mod_eq_of_lt (by omega),Nat.mod_eq_of_lt (by omega)]
   have:=Nat.two_pow_add_eq_or_of_lt (i:=15) (b:=L) (by omega) 1
   rw [Nat.mul_one] at this;exact this.symm
  change i64.wrap (((BitVec.ofInt 64 32768 ||| BitVec.ofInt 64 (L:Int)).toNat:Nat):Int)=_
  rw [h3];unfold IntKind.wrap;simp [IntKind.bits,IntKind.signed];omega
 ·unfold bits
  have h3:(BitVec.ofInt 64 0 ||| BitVec.ofInt 64 (L:Int)).toNat=L:=by
   rw [show (0:Int)=((0:Nat):Int) from rfl,e,e,BitVec.toNat_or,BitVec.toNat_ofNat,BitVec.toNat_ofNat,Nat.mod_eq_of_lt (by omega),Nat.mod_eq_of_lt (by omega)]
   simp
  change i64.wrap (((BitVec.ofInt 64 0 ||| BitVec.ofInt 64 (L:Int)).toNat:Nat):Int)=_
  rw [h3];unfold IntKind.wrap;simp [IntKind.bits,IntKind.signed];omega
theorem mget_mset(n a:Int)(x:List Int):∀ m:ML,n∈Zn m->mget (mset m n x) a=if a=n then some x else mget m a
 | [],h=>by simp [Zn] at h
 | (k,v)::m,h=>by
  simp only [mset]
  split
  ·rename_i e;subst e
   simp only [mget]
   by_cases ha:a=k
   ·subst ha;simp
   ·rw [if_neg (fun e=>ha e.symm),if_neg ha,if_neg (fun e=>ha e.symm)]
  ·rename_i e
   have hm:n∈Zn m:=by
    simp only [Zn,List.map_cons,List.mem_cons] at h
    rcases h with h | h
    ·exact absurd h.symm e
    ·exact h
   have ih:=mget_mset n a x m hm;simp only [mget]
   by_cases ha:k=a
   ·subst ha;rw [if_pos rfl,if_pos rfl,if_neg e]
   ·rw [if_neg ha,if_neg ha,ih]
theorem mget_mins(n a:Int)(x:List Int):∀ m:ML,n∉Zn m->mget (mins m n x) a=if a=n then some x else mget m a
 | [],h=>by
  simp only [mins,mget]
  by_cases ha:a=n
  ·subst ha;simp
  ·rw [if_neg (fun e=>ha e.symm),if_neg ha]
 | (k,v)::m,h=>by
  have hk:n≠k:=fun e=>h (by simp [Zn,e])
  have hm:n∉Zn m:=fun e=>h (by simp only [Zn,List.map_cons,List.mem_cons];exact .inr e)
  simp only [mins]
  split
  ·simp only [mget]
   by_cases ha:a=n
   ·subst ha;simp
   ·rw [if_neg (fun e=>ha e.symm),if_neg ha]
  ·have ih:=mget_mins n a x m hm
   simp only [mget]
   by_cases ha:k=a
   ·subst ha;rw [if_pos rfl,if_pos rfl,if_neg (fun e=>hk e.symm)]
   ·rw [if_neg ha,if_neg ha,ih]
theorem mget_put(m:ML)(n a:Int)(x:List Int):mget (mput2 m n x) a=if a=n then some x else mget m a:=by
 unfold mput2
 split
 ·rename_i h;exact mget_mset n a x m ((Xe n m).1 h)
 ·rename_i h;exact mget_mins n a x m (fun q=>h ((Xe n m).2 q))
theorem blk_of64{b:List Int}(h:b.length=64):blk b=b:=by
 rw [<- blk_padS,List.take_append_of_le_length (by omega),List.take_of_length_le (by omega)]
theorem cur_put(m:ML)(n a:Int)(x:List Int)(hx:x.length=64):cur (mput2 m n x) a=if a=n then x else cur m a:=by
 unfold cur;rw [mget_put]
 by_cases h:a=n
 ·rw [if_pos h,if_pos h];exact blk_of64 hx
 ·rw [if_neg h,if_neg h]
theorem rd_nil(m:ML)(a:Int):rd m [] a=cur m a:=by
 unfold rd cur;simp only [Wx]
 cases mget m a with
 | some b=>rfl
 | none=>rfl
theorem blksN_at{a j:Nat}(h:0<a):j<Zo a↔46*j<a:=by unfold Zo;split <;> omega
theorem ptP_eq{b:List Int}{j:Nat}(hj:46*j<b.length):ptL b j=((b.length-46*j:Nat):Int)/\ptP b j=(b.drop (46*j)).take 46:=by
 have h0:ptO b j=46*j:=by unfold ptO;split <;> omega
 unfold ptP ptL;rw [h0];refine ⟨rfl,?_⟩
 split
 ·rfl
 ·rename_i h
  rw [List.take_of_length_le (by simp),List.take_of_length_le (by simp;omega)]
theorem putX_cell{st:Int}{b:List Int}{j:Nat}(h0:0<=st)(h1:st+j<256)(hb:b.length<=3000)(hj:46*j<b.length):
  Y9 (putX st b j)=⟨st+j,decide (j=0),((b.length-46*j:Nat):Int),(b.drop (46*j)).take 46++List.replicate (46-((b.drop (46*j)).take 46).length) 0⟩:=by
 obtain ⟨e1,e2⟩:=ptP_eq hj;have o:=or15 (b.length-46*j) (by omega)
 unfold putX;rw [e1,e2]
 cases j with
 | zero =>
  have hd:hdJ 0=32768:=rfl;rw [hd,cellS_fill (by omega) h1 (by simp;omega) _ (by omega) (by omega) o.1]
  congr 1
  ·simp;omega
  ·omega
 | succ j =>
  have hd:hdJ (j+1)=0:=rfl;rw [hd,cellS_fill (by omega) h1 (by simp;omega) _ (by omega) (by omega) o.2]
  congr 1
  ·simp;omega
  ·omega
theorem putX_sml{st:Int}{b:List Int}{j:Nat}(h0:0<=st)(h1:st+j<256)(hB:byB b):Sml (st+j+1) (putX st b j):=
 fillX_sml (by omega) h1 (ptP_length b j) ((hB.drop _).take _)
theorem oneS_put{rd:Int->List Int}{nx st:Int}{b:List Int}(h0:0<=st)(h1:st+Zo b.length<=256)(hb:b.length<=3000)(hv:∀ j:Nat,j<Zo b.length->rd (nx+j)=putX st b j):
  ∀ (k j:Nat),1<=j->46*j<b.length->b.length<=46*(j+k)->oneS rd nx k j ((b.length-46*j:Nat):Int) (st+j-1) (b.take (46*j))=some (b,(Zo b.length:Int),st+Zo b.length-1)
 | 0,j,hj,hl,hk=>by omega
 | k+1,j,hj,hl,hk=>by
  have hjn:=(blksN_at (j:=j) (show 0<b.length by omega)).2 hl
  unfold oneS;simp only;rw [hv j hjn,putX_cell h0 (by omega) hb hl]
  simp only;rw [if_neg (by simp;omega)]
  by_cases h4:((b.length-46*j:Nat):Int)<=46
  ·rw [if_pos h4]
   have hN:Zo b.length=j+1:=by unfold Zo;split <;> omega
   rw [hN];have e:(b.take (46*j))++(((b.drop (46*j)).take 46++List.replicate (46-((b.drop (46*j)).take 46).length) 0).take ((b.length-46*j:Nat):Int).toNat)=b:=by
    have hlen:((b.drop (46*j)).take 46)=b.drop (46*j):=List.take_of_length_le (by simp;omega)
    have e3:(b.drop (46*j)++List.replicate (46-(b.drop (46*j)).length) (0:Int)).take (b.length-46*j)=b.drop (46*j):=List.take_left' (by simp)
    rw [hlen,Int.toNat_natCast,e3,List.take_append_drop]
   rw [e];simp only [Option.some.injEq,Prod.mk.injEq,true_and];omega
  ·rw [if_neg h4]
   have ih:=oneS_put h0 h1 hb hv k (j+1) (by omega) (by omega) (by omega)
   have e1:((b.drop (46*j)).take 46).length=46:=by simp;omega
   have e2:b.take (46*j)++((b.drop (46*j)).take 46++List.replicate (46-((b.drop (46*j)).take 46).length) 0)=b.take (46*(j+1)):=by
    rw [e1,Nat.sub_self,List.replicate_zero,List.append_nil,Nat.mul_add,Nat.mul_one,List.take_add]
   rw [e2,show ((b.length-46*j:Nat):Int)-46=((b.length-46*(j+1):Nat):Int) by omega]
   rw [show (j:Int)+1=((j+1:Nat):Int) by omega,show st+(j:Int)=st+((j+1:Nat):Int)-1 by omega]
   exact ih
theorem one_put{rd:Int->List Int}{nx st last:Int}{b:List Int}(h0:0<=st)(h1:st+Zo b.length<=256)(hb0:0<b.length)(hb:b.length<=3000)(hl:last<st)(hv:∀ j:Nat,j<Zo b.length->rd (nx+j)=putX st b j):
  Xs rd nx last=some (b,(Zo b.length:Int),st+Zo b.length-1):=by
 have hp:=blksN_pos b.length;have e:=hv 0 hp;rw [show nx+((0:Nat):Int)=nx by omega] at e
 unfold Xs;simp only;rw [e,putX_cell h0 (by omega) hb (by omega)]
 simp only [Nat.mul_zero,List.drop_zero,Nat.sub_zero];rw [if_neg (by simp;omega)]
 by_cases h4:(b.length:Int)<=46
 ·rw [if_pos h4]
  have hN:Zo b.length=1:=by unfold Zo;split <;> omega
  have e2:b.take 46=b:=List.take_of_length_le (by omega)
  rw [hN,e2,Int.toNat_natCast,List.take_append_of_le_length (Nat.le_refl _),List.take_length];simp
 ·rw [if_neg h4]
  have:=oneS_put h0 h1 hb hv 360 1 (by omega) (by omega) (by omega)
  have e1:(b.take 46).length=46:=by simp;omega
  rw [e1,Nat.sub_self,List.replicate_zero,List.append_nil];have e2:((b.length-46*1:Nat):Int)=(b.length:Int)-46:=by omega
  rw [e2] at this;have e3:st+((1:Nat):Int)-1=st+((0:Nat):Int):=by omega
  rw [e3] at this;exact this
theorem one_mark{rd:Int->List Int}{nx st last:Int}(h0:0<=st)(h1:st<256)(hl:last<st)(hv:rd nx=X1 st 32768 []):Xs rd nx last=some ([],1,st):=by
 unfold Xs;simp only;rw [hv,cellS_fill h0 h1 (by simp) 32768 (by omega) (by omega) rfl]
 simp only;rw [if_neg (by simp;omega),if_pos (by omega)]
 simp
theorem torn_eq(o b:List Int)(ho:o.length=64)(hb:b.length=64)(c:Nat)(hc:c<=64):Z6 o 0 (b.take c)=b.take c++o.drop c:=by
 unfold Z6;rw [List.take_zero,List.nil_append,Nat.zero_add,List.length_take,hb,Nat.min_eq_left hc]
theorem z7_take{x y:Int}{c:Nat}(hc:c<=7):(z7 x).take c=(z7 y).take c:=by
 match c,hc with
 | 0,_ | 1,_ | 2,_ | 3,_ | 4,_ | 5,_ | 6,_ | 7,_=>rfl
theorem torn_or{t u:Int}{o b:List Int}(ho:Sml t o)(hb:Sml u b){c:Nat}(hc:c<64):Z6 o 0 (b.take c)=o∨((Z6 o 0 (b.take c)).take 8=b.take 8/\(Z6 o 0 (b.take c)).drop 56=o.drop 56):=by
 rw [torn_eq o b ho.len hb.len c (by omega)]
 obtain ⟨x,_,_,hx⟩:=ho.hd;obtain ⟨y,_,_,hy⟩:=hb.hd;obtain ⟨v,_,_,hv⟩:=ho.tl;obtain ⟨w,_,_,hw⟩:=hb.tl;have hol:=ho.len;have hbl:=hb.len
 by_cases h7:c<=7
 ·left
  have e:b.take c=o.take c:=by
   have e1:b.take c=(b.take 8).take c:=by rw [List.take_take,Nat.min_eq_left (by omega)]
   have e2:o.take c=(o.take 8).take c:=by rw [List.take_take,Nat.min_eq_left (by omega)]
   rw [e1,e2,hx,hy];exact z7_take h7
  rw [e,List.take_append_drop]
 ·right
  have hcl:(b.take c).length=c:=by simp;omega
  refine ⟨by rw [List.take_append_of_le_length (by omega),List.take_take,Nat.min_eq_left (by omega)],?_⟩
  by_cases h56:c<=56
  ·rw [List.drop_append,List.drop_of_length_le (by omega),List.nil_append,hcl,List.drop_drop]
   congr 1;omega
  ·rw [List.drop_append_of_le_length (by omega),List.drop_take]
   have e1:(b.drop 56).take (c-56)=(o.drop 56).take (c-56):=by rw [hv,hw];exact z7_take (by omega)
   rw [e1];have e2:o.drop c=(o.drop 56).drop (c-56):=by rw [List.drop_drop];congr 1;omega
   rw [e2,List.take_append_drop]
theorem Sml.torn{t:Int}{o b:List Int}(ho:Sml t o)(hb:Sml t b){c:Nat}(hc:c<64):Sml t (Z6 o 0 (b.take c)):=by
 rcases torn_or ho hb hc with h | ⟨h1,h2⟩
 ·rw [h];exact ho
 ·refine ⟨?_,?_,?_,?_⟩
  ·rw [torn_eq o b ho.len hb.len c (by omega)];simp [ho.len,hb.len];omega
  ·rw [torn_eq o b ho.len hb.len c (by omega)];exact (hb.by_.take c).app (ho.by_.drop c)
  ·rw [h1];exact hb.hd
  ·rw [h2];exact ho.tl
theorem mget_del(n a:Int):∀ m:ML,Asc m->mget (mdel m n) a=if a=n then none else mget m a
 | [],_=>by simp [mdel,mget]
 | (k,v)::m,h=>by
  have h2:Asc m:=(List.pairwise_cons.1 (show (k::Zn m).Pairwise (· < ·) from h)).2
  have h1:=(List.pairwise_cons.1 (show (k::Zn m).Pairwise (· < ·) from h)).1
  have ih:=mget_del n a m h2;simp only [mdel]
  split
  ·rename_i e;subst e
   by_cases ha:a=k
   ·subst ha
    rw [if_pos rfl]
    cases hg:mget m a with
    | none=>rfl
    | some x =>
     have:=(Xe a m).1 (by rw [hg];rfl)
     have:=h1 a this;omega
   ·simp only [mget];rw [if_neg ha,if_neg (fun e=>ha e.symm)]
  ·rename_i e
   simp only [mget,ih]
   by_cases ha:k=a
   ·subst ha;rw [if_pos rfl,if_pos rfl,if_neg e]
   ·rw [if_neg ha,if_neg ha]
theorem cur_del(m:ML)(n a:Int)(h:Asc m):cur (mdel m n) a=if a=n then List.replicate 64 0 else cur m a:=by
 unfold cur;rw [mget_del n a m h]
 by_cases ha:a=n
 ·rw [if_pos ha,if_pos ha]
 ·rw [if_neg ha,if_neg ha]
theorem lastW_mem(a:Int):∀ {p:PL} {o:Option (List Int)},Wx a p=some o->(a,o)∈p
 | [],o,h=>by simp [Wx] at h
 | (c,b)::p,o,h=>by
  simp only [Wx] at h
  split at h
  ·rename_i x hx
   injection h with h;subst h
   exact List.mem_cons_of_mem _ (lastW_mem a hx)
  ·split at h
   ·rename_i e;subst e
    injection h with h;subst h
    exact List.mem_cons_self
   ·simp at h
theorem lastW_snocN(a c:Int)(o:Option (List Int)):∀ p:PL,Wx a (p++[(c,o)])=if c=a then some o else Wx a p
 | []=>rfl
 | (d,b)::p=>by
  have ih:=lastW_snocN a c o p;simp only [List.cons_append,Wx,ih]
  by_cases h:c=a
  ·simp [h]
  ·simp [h]
def bOf:Option (List Int)->List Int
 | some b=>blk b
 | none=>blk []
theorem rd_app1(m:ML)(p:PL)(a x:Int)(o:Option (List Int)):rd m (p++[(a,o)]) x=if a=x then bOf o else rd m p x:=by
 unfold rd;rw [lastW_snocN]
 by_cases h:a=x
 ·rw [if_pos h,if_pos h];cases o <;> rfl
 ·rw [if_neg h,if_neg h]
theorem rd_cons(m:ML)(p:PL)(a x:Int)(o:Option (List Int)):rd m ((a,o)::p) x=match Wx x p with
  | some q=>bOf q
  | none=>if a=x then bOf o else cur m x:=by
 unfold rd;simp only [Wx]
 cases Wx x p with
 | some q=>cases q <;> rfl
 | none =>
  by_cases h:a=x
  ·simp only [h,if_true];cases o <;> rfl
  ·simp only [h,if_false];rw [<- rd_nil];rfl
theorem rd_cur(m:ML)(p:PL)(x:Int):rd m p x=match Wx x p with
  | some q=>bOf q
  | none=>cur m x:=by
 unfold rd
 cases Wx x p with
 | some q=>cases q <;> rfl
 | none=>simp only;rw [<- rd_nil];rfl
theorem sync_rd:∀ (p:PL) (m:ML),okM m->okQ p->∀ x,cur (Yn p m) x=rd m p x
 | [],m,hm,hq,x=>(rd_nil m x).symm
 | (a,some b)::q,m,hm,hq,x=>by
  have ha:=hq (a,some b) List.mem_cons_self;have hb:=ha.2 b rfl;have ih:=sync_rd q (mput2 m a b) (hm.put ha.1 hb) (fun y hy=>hq y (List.mem_cons_of_mem _ hy)) x
  rw [Yn,ih,rd_cons,rd_cur]
  cases Wx x q with
  | some o=>rfl
  | none =>
   simp only;rw [cur_put m a x b hb]
   by_cases h:x=a
   ·rw [if_pos h,if_pos h.symm];exact (blk_of64 hb).symm
   ·rw [if_neg h,if_neg fun e=>h e.symm]
 | (a,none)::q,m,hm,hq,x=>by
  have ih:=sync_rd q (mdel m a) (hm.del a) (fun y hy=>hq y (List.mem_cons_of_mem _ hy)) x
  rw [Yn,ih,rd_cons,rd_cur]
  cases Wx x q with
  | some o=>rfl
  | none =>
   simp only;rw [cur_del m a x hm.1]
   by_cases h:x=a
   ·rw [if_pos h,if_pos h.symm];rfl
   ·rw [if_neg h,if_neg fun e=>h e.symm]
theorem cur_sml{t:Int}(h0:0<t){m:ML}(h:∀ x∈m,Sml t x.2)(a:Int):Sml t (cur m a):=by
 unfold cur
 cases hg:mget m a with
 | none=>exact .zero h0
 | some c =>
  have key:∀ {m:ML},mget m a=some c->(a,c)∈m:=by
   intro m
   induction m with
   | nil=>intro h;simp [mget] at h
   | cons x m ih =>
    intro h;obtain ⟨k,v⟩:=x
    simp only [mget] at h
    split at h
    ·rename_i e;injection h with h;subst e;subst h;exact List.mem_cons_self
    ·exact List.mem_cons_of_mem _ (ih h)
  have:=h _ (key hg);simp only;rw [blk_of64 this.len];exact this
theorem rd_sml{t:Int}(h0:0<t){m:ML}{p:PL}(h:∀ x∈m,Sml t x.2)(hp:∀ x∈p,∀ b,x.2=some b->Sml t b)(a:Int):Sml t (rd m p a):=by
 rw [rd_cur]
 cases hl:Wx a p with
 | none=>exact cur_sml h0 h a
 | some o =>
  cases o with
  | none=>exact .zero h0
  | some b =>
   have:=hp _ (lastW_mem a hl) b rfl
   show Sml t (blk b)
   rw [blk_of64 this.len];exact this
theorem put_sml{t:Int}{m:ML}(h:∀ x∈m,Sml t x.2){a:Int}{b:List Int}(hb:Sml t b):∀ x∈mput2 m a b,Sml t x.2:=fun x hx=>by
 rcases mput2_val hx with hx | rfl
 ·exact h x hx
 ·exact hb
theorem apply_sml{t:Int}:∀ {p:PL} {m:ML},(∀ x∈m,Sml t x.2)->(∀ x∈p,∀ b,x.2=some b->Sml t b)->∀ x∈Yn p m,Sml t x.2
 | [],m,h,hp=>h
 | (a,some b)::q,m,h,hp=>apply_sml (p:=q) (put_sml h (hp _ List.mem_cons_self b rfl)) fun x hx=>hp x (List.mem_cons_of_mem _ hx)
 | (a,none)::q,m,h,hp=>apply_sml (p:=q) (fun x hx=>h x ((mdel_sub a m).subset hx)) fun x hx=>hp x (List.mem_cons_of_mem _ hx)
theorem step_sml{t:Int}(h0:0<t)(ks:List Int)(cut last:Int)(k:Nat){m:ML}{x:Int × Option (List Int)}(h:∀ x∈m,Sml t x.2)(hx:∀ b,x.2=some b->Sml t b):∀ y∈stepM ks cut last k m x,Sml t y.2:=by
 unfold stepM
 split
 ·exact h
 ·obtain ⟨a,o⟩:=x
  cases o with
  | none=>exact fun y hy=>h y ((mdel_sub a m).subset hy)
  | some b =>
   simp only
   split
   ·rename_i hc
    exact put_sml h ((cur_sml h0 h a).torn (hx b rfl) (by omega))
   ·exact put_sml h (hx b rfl)
theorem crash_sml{t:Int}(h0:0<t)(ks:List Int)(cut last:Int):∀ (p:PL) (k:Nat) {m:ML},(∀ x∈m,Sml t x.2)->(∀ x∈p,∀ b,x.2=some b->Sml t b)->∀ x∈Va ks cut last p k m,Sml t x.2
 | [],k,m,h,hp=>h
 | x::q,k,m,h,hp=>crash_sml h0 ks cut last q (k+1) (step_sml h0 ks cut last k h (hp x List.mem_cons_self)) fun y hy=>hp y (List.mem_cons_of_mem _ hy)
theorem step_out(ks:List Int)(cut last:Int)(k:Nat){m:ML}(hm:okM m){x:Int × Option (List Int)}(hx:∀ b,x.2=some b->b.length=64){a:Int}(ha:x.1≠a):cur (stepM ks cut last k m x) a=cur m a:=by
 unfold stepM
 split
 ·rfl
 ·obtain ⟨c,o⟩:=x
  cases o with
  | none=>simp only;rw [cur_del m c a hm.1,if_neg fun e=>ha e.symm]
  | some b =>
   simp only
   split
   ·rw [cur_put m c a _ (torn_length m c b (hx b rfl) _),if_neg fun e=>ha e.symm]
   ·rw [cur_put m c a b (hx b rfl),if_neg fun e=>ha e.symm]
theorem crash_out(ks:List Int)(cut last:Int)(a:Int):∀ (p:PL) (k:Nat) (m:ML),okM m->okQ p->(∀ x∈p,x.1≠a)->cur (Va ks cut last p k m) a=cur m a
 | [],k,m,hm,hq,ha=>rfl
 | x::q,k,m,hm,hq,ha=>by
  have h2:okM (stepM ks cut last k m x):=(crashM_ok ks cut last [x] k m (fun y hy=>by rw [List.mem_singleton.1 hy];exact hq x List.mem_cons_self) hm).1
  rw [Va,crash_out ks cut last a q (k+1) _ h2 (fun y hy=>hq y (List.mem_cons_of_mem _ hy)) fun y hy=>ha y (List.mem_cons_of_mem _ hy)]
  exact step_out ks cut last k hm (hq x List.mem_cons_self).2 (ha x List.mem_cons_self)
theorem crash_once(ks:List Int)(cut last:Int)(a:Int)(b:List Int):∀ (p:PL) (k:Nat) (m:ML),okM m->okQ p->(p.map (·.1)).Nodup->(a,some b)∈p ->
  cur (Va ks cut last p k m) a=cur m a∨cur (Va ks cut last p k m) a=b∨∃ c<64,cur (Va ks cut last p k m) a=Z6 (cur m a) 0 (b.take c)
 | [],k,m,hm,hq,hn,h=>by simp at h
 | x::q,k,m,hm,hq,hn,h=>by
  have h2:okM (stepM ks cut last k m x):=(crashM_ok ks cut last [x] k m (fun y hy=>by rw [List.mem_singleton.1 hy];exact hq x List.mem_cons_self) hm).1
  have hn2:=List.nodup_cons.1 hn;have hq2:okQ q:=fun y hy=>hq y (List.mem_cons_of_mem _ hy)
  rw [Va]
  rcases List.mem_cons.1 h with rfl | h
  ·have hb:=(hq _ List.mem_cons_self).2 b rfl
   rw [crash_out ks cut last a q (k+1) _ h2 hq2 fun y hy e=>hn2.1 (List.mem_map.2 ⟨y,hy,e⟩)]
   unfold stepM
   split
   ·exact .inl rfl
   ·simp only
    split
    ·rename_i hc
     rw [cur_put m a a _ (torn_length m a b hb _),if_pos rfl];exact .inr (.inr ⟨cut.toNat,by omega,rfl⟩)
    ·rw [cur_put m a a b hb,if_pos rfl]
     exact .inr (.inl rfl)
  ·have ha:x.1≠a:=fun e=>hn2.1 (List.mem_map.2 ⟨(a,some b),h,e.symm⟩)
   have:=crash_once ks cut last a b q (k+1) _ h2 hq2 hn2.2 h;rw [step_out ks cut last k hm (hq x List.mem_cons_self).2 ha] at this;exact this
structure CI (B:Nat) (m:ML) (p:PL) (nx st:Int) (l:ML) (last:Int):Prop where
 hm:okM m
 hq:okQ p
 sm:∀ x∈m,Sml st x.2
 sp:∀ x∈p,∀ b,x.2=some b->Sml st b
 km:∀ x∈m,3<=x.1/\x.1<3+B
 kp:∀ x∈p,3<=x.1/\x.1<3+B
 run:Run (rd m p) 3 0 l nx last
 lt:last<st
 stop:Xs (rd m p) nx last=none
 nxB:nx<=3+B
 stB:st<=1+B
 used:(Zl m p).length<=B
 plen:p.length<=B
theorem CI.pos{B m p nx st l last}(h:CI B m p nx st l last):0<=last/\0<st/\3<=nx:=by
 have:=h.run.le;have:=h.lt;omega
theorem CI.smlA{B m p nx st l last}(h:CI B m p nx st l last)(a:Int):Sml st (rd m p a):=rd_sml h.pos.2.1 h.sm h.sp a
theorem putP_mem{st nx:Int}{b:List Int}{p:PL}{x:Int × Option (List Int)}:∀ {N:Nat},x∈putP st nx b p N->x∈p∨∃ j,j<N/\x=(nx+(j:Int),some (putX st b j))
 | 0,h=>.inl h
 | N+1,h=>by
  rcases List.mem_append.1 h with h | h
  ·rcases putP_mem h with h | ⟨j,h1,h2⟩
   ·exact .inl h
   ·exact .inr ⟨j,by omega,h2⟩
  ·exact .inr ⟨N,by omega,List.mem_singleton.1 h⟩
theorem putP_rd(st nx:Int)(b:List Int)(m:ML)(p:PL)(x:Int):∀ N:Nat,(∀ j:Nat,j<N->x=nx+j->rd m (putP st nx b p N) x=putX st b j)/\((x<nx∨nx+N<=x)->rd m (putP st nx b p N) x=rd m p x)
 | 0=>⟨fun j h=>by omega,fun _=>rfl⟩
 | N+1=>by
  obtain ⟨h1,h2⟩:=putP_rd st nx b m p x N;have e:putP st nx b p (N+1)=putP st nx b p N++[(nx+(N:Int),some (putX st b N))]:=rfl;rw [e];refine ⟨fun j hj hx=>?_,fun hx=>?_⟩
  ·rw [rd_app1]
   by_cases hjn:j=N
   ·subst hjn
    rw [if_pos hx.symm];exact blk_of64 (putX_length st b j)
   ·rw [if_neg (by omega)];exact h1 j (by omega) hx
  ·rw [rd_app1,if_neg (by omega)];exact h2 (by omega)
theorem CI.append{B m p nx st l last}(h:CI B m p nx st l last){b:List Int}(hb0:0<b.length)(hb:b.length<=3000)(hB:byB b)(hBB:B+Zo b.length<=255):
  CI (B+Zo b.length) m (putP st nx b p (Zo b.length)) (nx+Zo b.length) (st+Zo b.length) (l++[(nx,b)]) (st+Zo b.length-1):=by
 obtain ⟨q0,q1,q2⟩:=h.pos;have hN:=blksN_pos b.length;have hst:=h.stB;have hnx:=h.nxB;generalize hNN:Zo b.length=N at *;have r1:=fun x=>putP_rd st nx b m p x N
 have hmem:=fun x (hx:x∈putP st nx b p N)=>putP_mem hx
 refine ⟨h.hm,putP_okQ h.hq (by omega) N (by omega),fun x hx=>(h.sm x hx).mono (by omega),?_,fun x hx=>?_,?_,?_,by omega,?_,by omega,by omega,?_,?_⟩
 ·intro x hx c hc
  rcases hmem x hx with hx | ⟨j,h1,rfl⟩
  ·exact (h.sp x hx c hc).mono (by omega)
  ·injection hc with hc;subst hc
   exact (putX_sml (by omega) (by omega) hB).mono (by omega)
 ·have:=h.km x hx;omega
 ·intro x hx
  rcases hmem x hx with hx | ⟨j,h1,rfl⟩
  ·have:=h.kp x hx;omega
  ·show 3<=nx+(j:Int)/\nx+(j:Int)<_;omega
 ·have g:=h.run.congr (rd':=rd m (putP st nx b p N)) fun x x1 x2=>(r1 x).2 (.inl x2)
  refine g.snoc ?_ hb0;have:=one_put (rd:=rd m (putP st nx b p N)) (nx:=nx) (last:=last) (by omega) (by rw [hNN];omega) hb0 hb h.lt (fun j hj=>(r1 (nx+j)).1 j (by omega) rfl)
  rw [hNN] at this;exact this
 ·have e:=(r1 (nx+N)).2 (.inr (by omega))
  refine Sml.stop (t:=st) ?_ q1 (by omega) (by omega)
  rw [e];exact h.smlA _
 ·have:=putP_needs m st nx b p N;have:=h.used;omega
 ·rw [putP_length];have:=h.plen;omega
theorem CI.sync{B m p nx st l last}(h:CI B m p nx st l last):CI B (Yn p m) [] nx st l last:=by
 have e:rd (Yn p m) []=rd m p:=by
  funext x
  rw [rd_nil,sync_rd p m h.hm h.hq]
 refine ⟨h.hm.apply h.hq,okQ.nil,apply_sml h.sm h.sp,fun x hx=>by simp at hx,?_,fun x hx=>by simp at hx,?_,h.lt,?_,h.nxB,h.stB,?_,by simp⟩
 ·intro x hx
  rcases apply_mem (List.mem_map.2 ⟨x,hx,rfl⟩) with g | ⟨b,g⟩
  ·obtain ⟨y,hy,e⟩:=List.mem_map.1 g
   have:=h.km y hy;rw [e] at this;exact this
  ·exact h.kp _ g
 ·rw [e];exact h.run
 ·rw [e];exact h.stop
 ·have:=sync_needs m p;have:=h.used;omega
def frP(p:PL)(a:Int):Nat->PL
 | 0=>p
 | k+1=>frP p a k++[(a+(k:Int),none)]
theorem frP_length(p:PL)(a:Int):∀ k,(frP p a k).length=p.length+k
 | 0=>rfl
 | k+1=>by rw [frP,List.length_append,frP_length p a k];rfl
theorem frP_mem{p:PL}{a:Int}{x:Int × Option (List Int)}:∀ {k:Nat},x∈frP p a k->x∈p∨∃ j,j<k/\x=(a+(j:Int),none)
 | 0,h=>.inl h
 | k+1,h=>by
  rcases List.mem_append.1 h with h | h
  ·rcases frP_mem h with h | ⟨j,h1,h2⟩
   ·exact .inl h
   ·exact .inr ⟨j,by omega,h2⟩
  ·exact .inr ⟨k,by omega,List.mem_singleton.1 h⟩
theorem frP_needs(m:ML)(p:PL)(a:Int):∀ k,(Zl m (frP p a k)).length=(Zl m p).length
 | 0=>rfl
 | k+1=>by rw [frP,needs_free,frP_needs m p a k]
theorem frP_rd(m:ML)(p:PL)(a x:Int):∀ k:Nat,(a<=x->x<a+k->rd m (frP p a k) x=List.replicate 64 0)/\((x<a∨a+k<=x)->rd m (frP p a k) x=rd m p x)
 | 0=>⟨fun h1 h2=>by omega,fun _=>rfl⟩
 | k+1=>by
  obtain ⟨h1,h2⟩:=frP_rd m p a x k;rw [frP];refine ⟨fun a1 a2=>?_,fun hx=>?_⟩
  ·rw [rd_app1]
   by_cases e:a+(k:Int)=x
   ·rw [if_pos e];rfl
   ·rw [if_neg e];exact h1 a1 (by omega)
  ·rw [rd_app1,if_neg (by omega)];exact h2 (by omega)
theorem frP_okQ{p:PL}(h:okQ p){a:Int}(h0:0<=a):∀ (k:Nat),a+k<=1073741824->okQ (frP p a k)
 | 0,_=>h
 | k+1,hk=>(frP_okQ h h0 k (by omega)).snoc ⟨by omega,by omega⟩ _ fun b hb=>by simp at hb
def cutP(p:PL)(at_ st:Int)(k:Nat):PL:=frP (p++[(at_,some (X1 st 32768 []))]) (at_+1) k
theorem CI.cut{B m p nx st l last}(h:CI B m p nx st l last){k:Nat}{at_:Int}{o:List Int}(hk:l[k]? = some (at_,o))(hBB:B+1<=255):
  3<=at_/\at_<nx/\CI (B+1) (Yn (cutP p at_ st (nx-at_-1).toNat) m) [] (at_+1) (st+1) (l.take k) st:=by
 obtain ⟨q0,q1,q2⟩:=h.pos;have hst:=h.stB;have hnx:=h.nxB;have hpl:=h.plen;obtain ⟨s1,g1,g2,g3,g4⟩:=h.run.split hk;refine ⟨g3,g4,?_⟩;have hF:=fillX_sml (t:=st) (h:=32768) (by omega) (by omega) (b:=[]) (by simp) (fun x hx=>by simp at hx)
 have hq1:okQ (p++[(at_,some (X1 st 32768 []))]):=h.hq.snoc ⟨by omega,by omega⟩ _ fun c hc=>by injection hc with hc;subst hc;exact hF.len
 have hq2:okQ (cutP p at_ st (nx-at_-1).toNat):=frP_okQ hq1 (by omega) _ (by omega)
 have hmem:∀ x∈cutP p at_ st (nx-at_-1).toNat,x∈p∨x=(at_,some (X1 st 32768 []))∨∃ j:Nat,j<(nx-at_-1).toNat/\x=(at_+1+(j:Int),none):=by
  intro x hx
  rcases frP_mem hx with hx | ⟨j,j1,j2⟩
  ·rcases List.mem_append.1 hx with hx | hx
   ·exact .inl hx
   ·exact .inr (.inl (List.mem_singleton.1 hx))
  ·exact .inr (.inr ⟨j,j1,j2⟩)
 have hsp:∀ x∈cutP p at_ st (nx-at_-1).toNat,∀ b,x.2=some b->Sml (st+1) b:=by
  intro x hx b hb
  rcases hmem x hx with hx | rfl | ⟨j,_,rfl⟩
  ·exact (h.sp x hx b hb).mono (by omega)
  ·injection hb with hb;subst hb;exact hF
  ·simp at hb
 have e:rd (Yn (cutP p at_ st (nx-at_-1).toNat) m) []=rd m (cutP p at_ st (nx-at_-1).toNat):=by
  funext x
  rw [rd_nil,sync_rd _ m h.hm hq2]
 have r1:=fun x=>frP_rd m (p++[(at_,some (X1 st 32768 []))]) (at_+1) x (nx-at_-1).toNat
 have eat:rd m (cutP p at_ st (nx-at_-1).toNat) at_=X1 st 32768 []:=by
  rw [show rd m (cutP p at_ st (nx-at_-1).toNat) at_=_ from (r1 at_).2 (.inl (by omega)),rd_app1,if_pos rfl]
  exact blk_of64 hF.len
 have elo:∀ x,x<at_->rd m (cutP p at_ st (nx-at_-1).toNat) x=rd m p x:=by
  intro x hx;rw [show rd m (cutP p at_ st (nx-at_-1).toNat) x=_ from (r1 x).2 (.inl (by omega)),rd_app1,if_neg (by omega)]
 refine ⟨h.hm.apply hq2,okQ.nil,apply_sml (fun x hx=>(h.sm x hx).mono (by omega)) hsp,fun x hx=>by simp at hx,?_,fun x hx=>by simp at hx,?_,by omega,?_,by omega,by omega,?_,by simp⟩
 ·intro x hx
  rcases apply_mem (List.mem_map.2 ⟨x,hx,rfl⟩) with g | ⟨b,g⟩
  ·obtain ⟨y,hy,e⟩:=List.mem_map.1 g
   have:=h.km y hy;rw [e] at this;omega
  ·rcases hmem _ g with g | g | ⟨j,_,g⟩
   ·have:=h.kp _ g;simp only at this;omega
   ·injection g with g1 _;omega
   ·injection g with _ g2;simp at g2
 ·rw [e]
  have:=(g1.congr (rd':=rd m (cutP p at_ st (nx-at_-1).toNat)) fun x x1 x2=>elo x x2).mark (one_mark (st:=st) (by omega) (by omega) (by have:=h.lt;omega) eat)
  exact this
 ·rw [e]
  refine Sml.stop (t:=st) ?_ q1 (by omega) (by omega)
  rcases Int.lt_or_le (at_+1) nx with hlt | hge
  ·rw [show rd m (cutP p at_ st (nx-at_-1).toNat) (at_+1)=_ from (r1 (at_+1)).1 (by omega) (by omega)]
   exact .zero q1
  ·rw [show rd m (cutP p at_ st (nx-at_-1).toNat) (at_+1)=_ from (r1 (at_+1)).2 (.inr (by omega)),rd_app1,if_neg (by omega)]
   exact h.smlA _
 ·have a1:=sync_needs m (cutP p at_ st (nx-at_-1).toNat)
  have a2:(Zl m (cutP p at_ st (nx-at_-1).toNat)).length=_:=frP_needs m _ _ _;have a3:=needs_more m p at_ (X1 st 32768 []);have:=h.used;omega
theorem Run.last_lt{rd:Int->List Int}{t:Int}(hs:∀ a,Sml t (rd a))(h0:0<t)(ht:t<=256){a s:Int}{l:ML}{b u:Int}(h:Run rd a s l b u):s<t->u<t:=by
 induction h with
 | nil=>exact id
 | @cons a s o c s' l b t' h k ih =>
  intro _;apply ih;obtain ⟨h1,h2,h3,h4⟩:=Xb h;have:=h4 (c-1) (by omega) (by omega)
  have:=(hs (a+(c-1))).cell h0 ht;omega
theorem cell_zero:(Y9 (List.replicate 64 0)).t=0:=by
 have:=(Sml.zero (t:=1) (by omega)).cell (by omega) (by omega)
 omega
theorem Run.nx_le{rd:Int->List Int}{A:Int}(hz:∀ x,A<=x->rd x=List.replicate 64 0){a s:Int}{l:ML}{b u:Int}(h:Run rd a s l b u):0<=s->a<=A->b<=A:=by
 induction h with
 | nil=>exact fun _ h=>h
 | @cons a s o c s' l b t' h k ih =>
  intro hs ha;obtain ⟨h1,h2,h3,h4⟩:=Xb h;have h5:=(h4 (c-1) (by omega) (by omega)).1
  apply ih (by omega)
  apply Int.not_lt.1;intro hlt;rw [hz _ (by omega),cell_zero] at h5
  omega
theorem max3_le{a b c t:Int}(h1:a<=t)(h2:b<t)(h3:c<t):max3 a b c<=t:=by unfold max3;split <;> split <;> omega
theorem max3_ge(a b c:Int):a<=max3 a b c/\b<max3 a b c/\c<max3 a b c:=by unfold max3;split <;> split <;> omega
theorem topS_le(base:Int){t:Int}:∀ (q:ML) (st:Int),(∀ x∈q,Xt (blk x.2)<t/\Xt ((blk x.2).drop 56)<t)->st<=t->topS base q st<=t
 | [],st,h,hs=>hs
 | x::q,st,h,hs=>by
  have hx:=h x List.mem_cons_self;rw [topS];refine topS_le base q _ (fun y hy=>h y (List.mem_cons_of_mem _ hy)) ?_
  split
  ·exact hs
  ·exact max3_le hs hx.1 hx.2
theorem topS_ge(base:Int):∀ (q:ML) (st:Int),st<=topS base q st/\∀ x∈q,base<=x.1->Xt (blk x.2)<topS base q st/\Xt ((blk x.2).drop 56)<topS base q st
 | [],st=>⟨Int.le_refl _,fun x hx=>by simp at hx⟩
 | x::q,st=>by
  rw [topS];obtain ⟨h1,h2⟩:=topS_ge base q (if x.1<base then st else max3 st (Xt (blk x.2)) (Xt ((blk x.2).drop 56)))
  refine ⟨?_,fun y hy hb=>?_⟩
  ·refine Int.le_trans ?_ h1
   split
   ·omega
   ·exact (max3_ge _ _ _).1
  ·rcases List.mem_cons.1 hy with rfl | hy
   ·rw [if_neg (by omega)] at h1 ⊢
    have:=max3_ge st (Xt (blk y.2)) (Xt ((blk y.2).drop 56));omega
   ·exact h2 y hy hb
theorem Sml.lower{t u:Int}{b:List Int}(h:Sml t b)(ht:t<=256)(h1:Xt b<u)(h2:Xt (b.drop 56)<u):Sml u b:=by
 have a:=h.hn ht;have c:=h.tn ht;exact ⟨h.len,h.by_,⟨_,a.1,h1,a.2.2⟩,⟨_,c.1,h2,c.2.2⟩⟩
theorem rd_zero{m:ML}{a:Int}(h:∀ x∈m,x.1≠a):rd m [] a=List.replicate 64 0:=by
 rw [rd_nil];unfold cur
 cases hg:mget m a with
 | none=>rfl
 | some c =>
  have:=(Xe a m).1 (by rw [hg];rfl)
  obtain ⟨x,hx,e⟩:=List.mem_map.1 this;exact absurd e (h x hx)
theorem CI.fresh{B:Nat}{t:Int}{m:ML}(hm:okM m)(sm:∀ x∈m,Sml t x.2)(h0:0<t)(ht:t<=1+B)(hB:B<=255)(km:∀ x∈m,3<=x.1/\x.1<3+B)(used:(Zl m []).length<=B):
  CI B m [] (Zr (rd m []) B 3 0).2.1 (topS 3 m ((Zr (rd m []) B 3 0).2.2+1)) (Zr (rd m []) B 3 0).1 (Zr (rd m []) B 3 0).2.2:=by
 have hs:∀ a,Sml t (rd m [] a):=fun a=>rd_sml h0 sm (fun x hx=>by simp at hx) a
 have hz:∀ x,(3+B:Int)<=x->rd m [] x=List.replicate 64 0:=fun x hx=>rd_zero fun y hy e=>by have:=km y hy;omega
 have hz2:∀ a last,(3+B:Int)<=a->0<=last->Xs (rd m []) a last=none:=fun a last ha hl=>Sml.stop (t:=1) (by rw [hz a ha];exact .zero (by omega)) (by omega) (by omega) (by omega)
 obtain ⟨r1,r2⟩:=links_run hz2 B 3 0 (by omega) (by omega)
 generalize Zr (rd m []) B 3 0=L at *;obtain ⟨l,nx,last⟩:=L
 simp only at r1 r2 ⊢;have g1:=r1.last_lt hs h0 (by omega) h0
 have g2:=r1.nx_le hz (by omega) (by omega)
 have g3:=r1.le;have hb:∀ x∈m,Xt (blk x.2)<t/\Xt ((blk x.2).drop 56)<t:=fun x hx=>by
  have:=sm x hx;rw [blk_of64 this.len];exact ⟨(this.hn (by omega)).2.1,(this.tn (by omega)).2.1⟩
 have t1:=topS_le 3 m (last+1) hb (by omega)
 obtain ⟨t2,t3⟩:=topS_ge 3 m (last+1);refine ⟨hm,okQ.nil,fun x hx=>?_,fun x hx=>by simp at hx,km,fun x hx=>by simp at hx,r1,by omega,r2,g2,by omega,used,by simp⟩
 have q:=t3 x hx (km x hx).1;have:=sm x hx;rw [blk_of64 this.len] at q;exact this.lower (by omega) q.1 q.2
theorem CI.lost{B m p nx st l last}(h:CI B m p nx st l last)(ks:List Int)(cut:Int):
  okM (Xf m p ks cut)/\(∀ x∈Xf m p ks cut,Sml st x.2)/\(∀ x∈Xf m p ks cut,3<=x.1/\x.1<3+B)/\(Zl (Xf m p ks cut) []).length<=B:=by
 have c:=crashM_ok ks cut (lastK ks p.length) p 0 m h.hq h.hm;refine ⟨c.1,crash_sml h.pos.2.1 ks cut _ p 0 h.sm h.sp,fun x hx=>?_,?_⟩
 ·rcases c.2 x.1 (List.mem_map.2 ⟨x,hx,rfl⟩) with g | ⟨b,g⟩
  ·obtain ⟨y,hy,e⟩:=List.mem_map.1 g
   have:=h.km y hy;rw [e] at this;exact this
  ·exact h.kp _ g
 ·have:=crash_needs m p h.hq h.hm ks cut;have:=h.used;omega
theorem Sml.bk{t:Int}{m:ML}(h:∀ x∈m,Sml t x.2):∀ x∈m,byB (blk x.2):=fun x hx=>by
 have:=h x hx;rw [blk_of64 this.len];exact this.by_
theorem fresh_open(j:Nat)(hj:400<=j)(rm:Int){B:Nat}{t:Int}{m:ML}(hm:okM m)(sm:∀ x∈m,Sml t x.2)(h0:0<t)(hB:B<=255)(km:∀ x∈m,3<=x.1/\x.1<3+B)(used:(Zl m []).length<=B):
  Zd prog C0 (Z3 prog C0 (j+100)) (j+100) 28 [.ptr 0 0,.int .i64 3,.int .i64 3] ⟨1,[(0,dO rm m [])]⟩=some (.tup [.ptr 1 0,opLV 2 (Zr (rd m []) B 3 0).1,.nili],opSt rm m [] 3 (Zr (rd m []) B 3 0).2.1 (topS 3 m ((Zr (rd m []) B 3 0).2.2+1)) (Zr (rd m []) B 3 0).1):=by
 have hs:∀ a,Sml t (rd m [] a):=fun a=>rd_sml h0 sm (fun x hx=>by simp at hx) a
 have hz:∀ x,(3+B:Int)<=x->rd m [] x=List.replicate 64 0:=fun x hx=>rd_zero fun y hy e=>by have:=km y hy;omega
 have hl:m.length<=B:=by rw [<- needs_of m hm.1];exact used
 exact open_any j hj rm m [] (by simp) okQ.nil.ok64.okP 3 3 (by omega) (by omega) (fun a=>(hs a).by_) (Sml.bk sm) (3+B) (by omega) (by omega)
  (fun a last ha hl=>Sml.stop (t:=1) (by rw [hz a ha];exact .zero (by omega)) (by omega) (by omega) (by omega)) (hm.keys (by omega)) (by omega) (by omega) B (by omega) (by omega) (by omega)
theorem CI.open_{B m nx st l last}(h:CI B m [] nx st l last)(hB:B<=255)(j:Nat)(hj:400<=j)(rm:Int):
  Zd prog C0 (Z3 prog C0 (j+100)) (j+100) 28 [.ptr 0 0,.int .i64 3,.int .i64 3] ⟨1,[(0,dO rm m [])]⟩=some (.tup [.ptr 1 0,opLV 2 l,.nili],opSt rm m [] 3 nx (topS 3 m (last+1)) l):=by
 have:=fresh_open j hj rm h.hm h.sm h.pos.2.1 hB h.km h.used;rw [h.run.links h.stop B (by have:=h.nxB;omega)] at this
 exact this
theorem CI.crash{B m p nx st l last}(h:CI B m p nx st l last)(hB:B<=255)(j:Nat)(hj:300<j)(rm:Int)(ks:List Int)(c:Int):
  Zd prog C0 (Z3 prog C0 (j+60)) (j+60) 15 [.ptr 0 0,.isl 1 (ints ks),.int .i64 c] ⟨1,[(0,dO rm m p)]⟩=some (.tup [],⟨1,[(0,dO rm (Xf m p ks c) [])]⟩):=
 crash_any j rm m p (by have:=h.plen;omega) (by have:=h.plen;omega) h.hq.ok64 ks c
theorem CI.csync{B m p nx st l last}(h:CI B m p nx st l last)(hB:B<=255)(j:Nat)(hj:300<j)(rm:Int):
  Zd prog C0 (Z3 prog C0 (j+60)) (j+60) 27 [.ptr 0 0] ⟨2,[(0,chO 3 nx st),(1,dO rm m p)]⟩=some (.tup [],⟨2,[(0,chO 3 nx st),(1,dO rm (Yn p m) [])]⟩):=
 csync_ok j 3 nx st rm m _ p (fun k hk=>sync_any k rm m p (by have:=h.plen;omega) hk h.hq.ok64) (by have:=h.plen;omega)
theorem CI.appendF{B m p nx st l last}(h:CI B m p nx st l last){b:List Int}(hb0:0<b.length)(hb:b.length<=3000)(hBB:B+Zo b.length<=255)(j:Nat)(hj:300<j):
  Zd prog C0 (Z3 prog C0 (j+165)) (j+165) 29 [.ptr 0 0,.isl 1 (bys b)] ⟨2,[(0,chO 3 nx st),(1,dO 4000 m p)]⟩ =
   some (.tup [.int .i64 nx,.nili],⟨2,[(0,chO 3 (nx+Zo b.length) (st+Zo b.length)),(1,dO 4000 m (putP st nx b p (Zo b.length)))]⟩):=by
 obtain ⟨q0,q1,q2⟩:=h.pos;have a1:=h.plen;have a2:=h.used;have a3:=h.nxB;have a4:=h.stB;exact append_thru j b hb0 hb 3 nx st _ _ 4000 m p _ fun k=>put_any (k+42) 3 nx st 4000 m p b hb (by omega) h.hq (by omega) (by omega) (by omega) (by omega) (by omega) (by omega) (by omega) (by omega)
theorem cu_loop(n:Nat)(st rm:Int)(base nx old:Int)(hold:old<=100000)(m:ML)(p:PL)(hp:p.length<=1000)(a:Int)(a0:0<=a)(N:Nat)(hN:a+N=old)(hN2:N<=1000):∀ (q k fu:Nat),k+q=N->q<fu ->
  Z2 prog C0 (n+60) 31 0 2 fu (cuE old (a+(k:Int))) ⟨2,[(0,chO base nx st),(1,dO rm m (frP p a k))]⟩=some (.exit 0,cuX,⟨2,[(0,chO base nx st),(1,dO rm m (frP p a N))]⟩)
 | 0,k,fu,hk,hf=>by
  obtain ⟨fu,rfl⟩:∃ q,fu=q+1:=⟨fu-1,by omega⟩
  obtain rfl:k=N:=by omega
  rw [hN];exact cu_end n fu base nx st rm old m _
 | q+1,k,fu,hk,hf=>by
  obtain ⟨fu,rfl⟩:∃ q,fu=q+1:=⟨fu-1,by omega⟩
  have ih:=cu_loop n st rm base nx old hold m p hp a a0 N hN hN2 q (k+1) fu (by omega) (by omega)
  rw [show a+((k+1:Nat):Int)=a+(k:Int)+1 by omega] at ih
  exact cu_step n fu base nx st rm old (a+k) m (frP p a k) (frP p a (k+1)) (by omega) hold (by omega) (fun j=>free_ok j (a+k) rm m _ (by omega) (by omega) (by rw [frP_length];omega)) _ ih
theorem CI.cutF{B m p nx st l last}(h:CI B m p nx st l last){at_:Int}(h3:3<=at_)(hlt:at_<nx)(hBB:2*B+1<=300)(j:Nat)(hj:300<j):
  Zd prog C0 (Z3 prog C0 (j+60)) (j+60) 31 [.ptr 0 0,.int .i64 at_] ⟨2,[(0,chO 3 nx st),(1,dO 4000 m p)]⟩=some (.nili,⟨2,[(0,chO 3 (at_+1) (st+1)),(1,dO 4000 (Yn (cutP p at_ st (nx-at_-1).toNat) m) [])]⟩):=by
 obtain ⟨q0,q1,q2⟩:=h.pos;have a1:=h.plen;have a2:=h.used;have a3:=h.nxB;have a4:=h.stB;have hF:=Xv st 32768 [] (by simp)
 have hq1:okQ (p++[(at_,some (X1 st 32768 []))]):=h.hq.snoc ⟨by omega,by omega⟩ _ fun c hc=>by injection hc with hc;subst hc;exact hF
 have hq2:okQ (cutP p at_ st (nx-at_-1).toNat):=frP_okQ hq1 (by omega) _ (by omega)
 have hl:(cutP p at_ st (nx-at_-1).toNat).length=p.length+1+(nx-at_-1).toNat:=by unfold cutP;rw [frP_length];simp
 have W:∀ k,Zd prog C0 (Z3 prog C0 (k+20)) (k+20) 20 [.ptr 0 0,.int .i64 at_,.isl 1 (bys (X1 st 32768 []))] ⟨1,[(0,dO 4000 m p)]⟩=some (.nili,⟨1,[(0,dO 4000 m (p++[(at_,some (X1 st 32768 []))]))]⟩):=by
  intro k
  rcases write_any 4000 m p (by omega) h.hq at_ ⟨by omega,by omega⟩ (X1 st 32768 []) (by omega) with ⟨u,_,_,_,W⟩ | ⟨_,g,_⟩
  ·rw [W k,blk64 hF]
  ·omega
 exact cut_thru j 3 nx st 4000 at_ m _ p (p++[(at_,some (X1 st 32768 []))]) (cutP p at_ st (nx-at_-1).toNat) (by omega) (by omega) h3 hlt (by omega) (by omega) (X1 st 32768 [])
  (fun k=>fill_nil k st 32768 (by omega) (by omega)) W
  (by
   have:=cu_loop j (st+1) 4000 3 (at_+1) nx (by omega) m (p++[(at_,some (X1 st 32768 []))]) (by simp;omega) (at_+1) (by omega) (nx-at_-1).toNat (by omega) (by omega) (nx-at_-1).toNat 0 (j+60) (by omega) (by omega)
   rw [show at_+1+((0:Nat):Int)=at_+1 by omega] at this
   exact this)
  (fun k hk=>sync_any k 4000 m _ (by omega) hk hq2.ok64) (by omega)
def pend(nx:Int):List (List Int)->PL
 | []=>[]
 | b::l=>(nx,some b)::pend (nx+1) l
theorem pend_app:∀ (A:List (List Int)) (nx:Int) (D:List (List Int)),pend nx (A++D)=pend nx A++pend (nx+A.length) D
 | [],nx,D=>by simp [pend]
 | b::A,nx,D=>by
  simp only [List.cons_append,pend,pend_app A (nx+1) D,List.length_cons];rw [show nx+1+(A.length:Int)=nx+((A.length+1:Nat):Int) by omega]
theorem pend_mem:∀ {A:List (List Int)} {nx:Int} {x:Int × Option (List Int)},x∈pend nx A->∃ (q:Nat) (b:List Int),A[q]? = some b/\x=(nx+q,some b)
 | [],nx,x,h=>by simp [pend] at h
 | b::A,nx,x,h=>by
  rcases List.mem_cons.1 h with rfl | h
  ·exact ⟨0,b,rfl,by simp⟩
  ·obtain ⟨q,c,h1,rfl⟩:=pend_mem h
   exact ⟨q+1,c,by simpa using h1,by congr 1;omega⟩
theorem pend_at:∀ {A:List (List Int)} {nx:Int} {q:Nat} {b:List Int},A[q]? = some b->(nx+(q:Int),some b)∈pend nx A
 | [],nx,q,b,h=>by simp at h
 | c::A,nx,0,b,h=>by
  have h:c=b:=by simpa using h
  subst h;simp [pend]
 | c::A,nx,q+1,b,h=>by
  have:=pend_at (nx:=nx+1) (show A[q]? = some b by simpa using h)
  rw [show nx+1+(q:Int)=nx+((q+1:Nat):Int) by omega] at this
  exact List.mem_cons_of_mem _ this
theorem pend_nodup:∀ (A:List (List Int)) (nx:Int),((pend nx A).map (·.1)).Nodup
 | [],nx=>.nil
 | b::A,nx=>by
  refine List.nodup_cons.2 ⟨fun h=>?_,pend_nodup A (nx+1)⟩
  obtain ⟨x,hx,e⟩:=List.mem_map.1 h;obtain ⟨q,c,_,rfl⟩:=pend_mem hx;simp only at e;omega
def bls(st:Int):List (List Int)->List (List Int)
 | []=>[]
 | b::l=>(List.range (Zo b.length)).map (putX st b)++bls (st+Zo b.length) l
def recI(nx:Int):List (List Int)->ML
 | []=>[]
 | b::l=>(nx,b)::recI (nx+Zo b.length) l
def sumN:List (List Int)->Nat
 | []=>0
 | b::l=>Zo b.length+sumN l
theorem bls_length:∀ (l:List (List Int)) (st:Int),(bls st l).length=sumN l
 | [],st=>rfl
 | b::l,st=>by simp [bls,sumN,bls_length l]
theorem putP_pend(st nx:Int)(b:List Int)(nx0:Int)(A:List (List Int))(h:nx0+A.length=nx):∀ N,putP st nx b (pend nx0 A) N=pend nx0 (A++(List.range N).map (putX st b))
 | 0=>by simp [putP]
 | N+1=>by
  rw [putP,putP_pend st nx b nx0 A h N,List.range_succ,List.map_append,<- List.append_assoc,pend_app (A++(List.range N).map (putX st b))]
  congr 1
  simp only [List.map_cons,List.map_nil,pend,List.length_append,List.length_map,List.length_range]
  congr 2
  omega
def okR(b:List Int):Prop:=0<b.length/\b.length<=3000/\byB b
theorem bls_at{st0:Int}(h0:0<=st0):∀ {l:List (List Int)} {off:Nat},(∀ b∈l,okR b)->st0+off+sumN l<=256->∀ {q:Nat} {b:List Int},(bls (st0+off) l)[q]? = some b ->
  (Y9 b).t=st0+off+q/\Sml (st0+off+q+1) b
 | [],off,hl,hs,q,b,h=>by simp [bls] at h
 | c::l,off,hl,hs,q,b,h=>by
  obtain ⟨c0,c1,c2⟩:=hl c List.mem_cons_self;simp only [sumN] at hs;rw [bls] at h
  by_cases hq:q<Zo c.length
  ·rw [List.getElem?_append_left (by simpa using hq),List.getElem?_map,List.getElem?_range hq] at h
   simp only [Option.map_some,Option.some.injEq] at h;subst h;have:=putX_cell (st:=st0+off) (by omega) (by omega) c1 ((blksN_at c0).1 hq)
   exact ⟨by rw [this],putX_sml (by omega) (by omega) c2⟩
  ·rw [List.getElem?_append_right (by simp;omega)] at h
   simp only [List.length_map,List.length_range] at h;have e:st0+(off:Int)+(Zo c.length:Int)=st0+((off+Zo c.length:Nat):Int):=by omega
   rw [e] at h;have:=bls_at h0 (l:=l) (off:=off+Zo c.length) (fun x hx=>hl x (List.mem_cons_of_mem _ hx)) (by omega) h
   have e2:st0+((off+Zo c.length:Nat):Int)+((q-Zo c.length:Nat):Int)=st0+off+q:=by omega
   rw [e2] at this;exact this
def KB(old b v:List Int):Prop:=v=old∨v=b∨Y9 v=⟨0,false,0,[]⟩
theorem crash_run{V old:Int->List Int}{nx0 st0 last0:Int}{BL:List (List Int)}(h0:0<st0)(hold:∀ a,Sml st0 (old a))(hl:last0<st0)(hstop:Xs old nx0 last0=none)(G1:∀ x,(x<nx0∨nx0+BL.length<=x)->V x=old x)(G2:∀ (q:Nat) (b:List Int),BL[q]? = some b->KB (old (nx0+q)) b (V (nx0+q))/\(Y9 b).t=st0+q)(hT:st0+BL.length<=256):
  ∀ (l:List (List Int)) (off:Nat) (s:Int),(∀ b∈l,okR b)->BL.drop off=bls (st0+off) l->off<=BL.length->(off=0/\s=last0∨s=st0+off-1) ->
   ∃ j nx' last',j<=l.length/\Run V (nx0+off) s ((recI (nx0+off) l).take j) nx' last'/\Xs V nx' last'=none
 | [],off,s,hr,hd,ho,hs=>by
  have hlen:BL.length=off:=by
   have:=congrArg List.length hd;simp [bls] at this;omega
  refine ⟨0,nx0+off,s,by simp,.nil _ _,?_⟩
  have hv:∀ x,nx0+off<=x->V x=old x:=fun x hx=>G1 x (.inr (by omega))
  rcases hs with ⟨rfl,rfl⟩ | rfl
  ·cases he:Xs V (nx0+((0:Nat):Int)) s with
   | none=>rfl
   | some r =>
    obtain ⟨o,c,u⟩:=r
    have:=(oneX_congr he (rd':=old) fun x x1 x2=>(hv x (by omega)).symm).2
    rw [show nx0+((0:Nat):Int)=nx0 by omega,hstop] at this
    simp at this
  ·refine Sml.stop (t:=st0) ?_ h0 (by omega) (by omega)
   rw [hv _ (Int.le_refl _)];exact hold _
 | b::l,off,s,hr,hd,ho,hs=>by
  obtain ⟨b0,b1,b2⟩:=hr b List.mem_cons_self;have hN:=blksN_pos b.length;have hL:BL.length=off+(Zo b.length+sumN l):=by
   have:=congrArg List.length hd;rw [bls_length,List.length_drop,sumN] at this;omega
  have hbl:∀ j:Nat,j<Zo b.length->BL[off+j]? = some (putX (st0+off) b j):=by
   intro j hj;have:=congrArg (fun z=>z[j]?) hd
   simp only [List.getElem?_drop] at this;rw [this,bls,List.getElem?_append_left (by simpa using hj),List.getElem?_map,List.getElem?_range hj]
   rfl
  have hslt:s<st0+off:=by rcases hs with ⟨rfl,rfl⟩ | rfl <;> omega
  have hK:∀ j:Nat,j<Zo b.length->KB (old (nx0+off+j)) (putX (st0+off) b j) (V (nx0+off+j)):=by
   intro j hj;have:=(G2 (off+j) _ (hbl j hj)).1;rw [show nx0+((off+j:Nat):Int)=nx0+off+j by omega] at this
   exact this
  have key:Xs V (nx0+off) s=none∨Xs V (nx0+off) s=some (b,(Zo b.length:Int),st0+off+Zo b.length-1):=by
   cases he:Xs V (nx0+off) s with
   | none=>exact .inl rfl
   | some r =>
    obtain ⟨o,c,u⟩:=r
    right
    obtain ⟨t1,t2,t3,t4⟩:=Xb he;have k0:=hK 0 hN;rw [show nx0+(off:Int)+((0:Nat):Int)=nx0+off by omega] at k0
    rcases k0 with k0 | k0 | k0
    ·
     exfalso;have q0:=(t4 0 (by omega) (by omega)).1
     rw [Int.add_zero,k0] at q0;have q1:=(hold (nx0+off)).cell h0 (by omega)
     rcases hs with ⟨rfl,rfl⟩ | rfl
     ·rw [show nx0+((0:Nat):Int)=nx0 by omega] at *
      have hall:∀ x,nx0<=x->x<nx0+c->old x=V x:=by
       intro x x1 x2
       by_cases hx:x<nx0+BL.length
       ·have hq:(x-nx0).toNat<BL.length:=by omega
        obtain ⟨g1,g2⟩:=G2 (x-nx0).toNat _ (List.getElem?_eq_getElem hq);have ex:nx0+(((x-nx0).toNat:Nat):Int)=x:=by omega
        rw [ex] at g1;have tx:=t4 (x-nx0) (by omega) (by omega)
        rw [show nx0+(x-nx0)=x by omega] at tx
        rcases g1 with g1 | g1 | g1
        ·exact g1.symm
        ·exfalso
         rw [g1,g2] at tx;omega
        ·exfalso
         rw [g1] at tx;simp only at tx
         by_cases hz:x=nx0
         ·subst hz
          rw [g1] at t3;simp at t3
         ·have:=tx.2 (by omega);omega
       ·exact (G1 x (.inr (by omega))).symm
      have:=(oneX_congr he hall).2;rw [hstop] at this;simp at this
     ·omega
    ·
     have q0:=(t4 0 (by omega) (by omega)).1
     rw [Int.add_zero,k0,putX_cell (by omega) (by omega) b1 (by omega)] at q0
     simp only at q0;have hnew:∀ j:Nat,j<Zo b.length->(j:Int)<c->V (nx0+off+j)=putX (st0+off) b j:=by
      intro j hj hc;have tj:=t4 j (by omega) hc
      rcases hK j hj with g | g | g
      ·exfalso
       rw [g] at tj;have:=(hold (nx0+off+j)).cell h0 (by omega)
       omega
      ·exact g
      ·exfalso
       rw [g] at tj;simp only at tj
       by_cases hz:j=0
       ·subst hz
        rw [show nx0+(off:Int)+((0:Nat):Int)=nx0+off by omega] at g
        rw [g] at t3;simp at t3
       ·have:=tj.2 (by omega);omega
     let W:Int->List Int:=fun x=>if nx0+off<=x/\x<nx0+off+Zo b.length then putX (st0+off) b (x-(nx0+off)).toNat else V x
     have hW:=one_put (rd:=W) (nx:=nx0+off) (st:=st0+off) (last:=s) (b:=b) (by omega) (by omega) b0 b1 hslt (fun j hj=>by
      show (if _ then _ else _)=_
      rw [if_pos ⟨by omega,by omega⟩];congr 1;omega)
     by_cases hc:c<=Zo b.length
     ·have:=(oneX_congr he (rd':=W) fun x x1 x2=>by
       show (if _ then _ else _)=_
       rw [if_pos ⟨x1,by omega⟩]
       have:=hnew (x-(nx0+off)).toNat (by omega) (by omega)
       rw [show nx0+(off:Int)+(((x-(nx0+off)).toNat:Nat):Int)=x by omega] at this
       exact this.symm).2
      rw [hW] at this;exact this.symm
     ·have:=(oneX_congr hW (rd':=V) fun x x1 x2=>by
       show _=(if _ then _ else _)
       rw [if_pos ⟨x1,x2⟩];have:=hnew (x-(nx0+off)).toNat (by omega) (by omega)
       rw [show nx0+(off:Int)+(((x-(nx0+off)).toNat:Nat):Int)=x by omega] at this
       exact this).2
      rw [he] at this;exact this
    ·exfalso
     rw [k0] at t3;simp at t3
  rcases key with key | key
  ·exact ⟨0,_,_,by simp,.nil _ _,key⟩
  ·have hd2:BL.drop (off+Zo b.length)=bls (st0+((off+Zo b.length:Nat):Int)) l:=by
    rw [<- List.drop_drop,hd,bls,List.drop_left' (by simp)]
    congr 1;omega
   obtain ⟨j,nx',last',j1,j2,j3⟩:=crash_run h0 hold hl hstop G1 G2 hT l (off+Zo b.length) (st0+off+Zo b.length-1) (fun x hx=>hr x (List.mem_cons_of_mem _ hx)) hd2 (by omega) (.inr (by omega))
   refine ⟨j+1,nx',last',by simp;omega,?_,j3⟩
   rw [show nx0+((off+Zo b.length:Nat):Int)=nx0+off+Zo b.length by omega] at j2
   have:=Run.cons key j2;rw [if_neg (by omega)] at this
   simpa [recI] using this
def stV:Option (List Int × Nat)->LV
 | none=>.nils
 | some (_,k)=>.sl 1 2 0 k none
def stT(rm:Int)(m:ML)(p:PL)(nx st:Int):Option (List Int × Nat)->St
 | none=>plN rm m p nx st
 | some (W,_)=>plS rm m p nx st W
def stOk(N:Nat)(l:ML):Option (List Int × Nat)->Prop
 | none=>l=[]
 | some (W,k)=>k<=W.length/\W.length<=N/\W.take k=atL l
theorem Run.length{rd:Int->List Int}{a s:Int}{l:ML}{b t:Int}(h:Run rd a s l b t):(l.length:Int)<=b-a:=by
 induction h with
 | nil=>simp
 | cons h k ih =>
  have:=Xb h
  split
  ·omega
  ·simp;omega
theorem ints_splice{W:List Int}{k:Nat}{x:Int}(hk:k<W.length):Z7 (ints W) k [.int .i64 x]=ints (W.set k x):=by
 unfold Z7 ints;rw [List.map_set,List.set_eq_take_append_cons_drop,if_pos (by simpa using hk)]
 simp
theorem ints_at'{W:List Int}{k:Nat}{x:Int}(h:W[k]? = some x):(ints W)[k]? = some (.int .i64 x):=by simp [ints,h]
theorem lksL_at{ls:ML}{i:Nat}{x:Int × List Int}(h:ls[i]? = some x):(Zp ls)[i]? = some (.agg [.int .i64 x.1,.isl 1 (bys x.2)]):=by simp [Zp,lkL,h]
theorem pi_loop(n:Nat)(hn:400<=n)(rm:Int)(m:ML)(p:PL)(nx st:Int)(l:List Act5)(i:Int)(ls:ML)(hls:ls.length<=1000):∀ (q:ML) (j fu:Nat) (W:List Int),ls.drop j=q->W=atL (ls.take j)->j<=ls.length->q.length<fu ->
  Z2 prog C0 (n+800) 26 1 0 fu (plF l (.sl 1 2 0 j none) i (.sl 2 3 0 ls.length none) j) (plL rm m p nx st (ints W) (Zp ls))=some (.exit 3,plE l (.sl 1 2 0 ls.length none) i,plS rm m p nx st (atL ls))
 | [],j,fu,W,hd,hW,hj,hf=>by
  obtain ⟨fu,rfl⟩:∃ q,fu=q+1:=⟨fu-1,by simp at hf;omega⟩
  have:ls.length<=j:=by simpa using hd
  obtain rfl:j=ls.length:=by omega
  rw [List.take_length] at hW;subst hW;exact pi_xS n fu hn rm m p nx st l i ls hls _ _
 | x::q,j,fu,W,hd,hW,hj,hf=>by
  obtain ⟨fu,rfl⟩:∃ q,fu=q+1:=⟨fu-1,by simp at hf;omega⟩
  have hx:ls[j]? = some x:=by
   have:=congrArg List.head? hd;simpa [List.head?_drop] using this
  have hlt:=(List.getElem?_eq_some_iff.1 hx).1;have hd2:ls.drop (j+1)=q:=by rw [<- List.drop_drop,hd];rfl
  have hl:W.length=j:=by rw [hW];simp [atL];omega
  have hW2:W++[x.1]=atL (ls.take (j+1)):=by rw [hW,List.take_add_one,hx];simp [atL]
  have ih:=pi_loop n hn rm m p nx st l i ls hls q (j+1) fu (W++[x.1]) hd2 hW2 (by omega) (by simp at hf;omega)
  have e:ints (W++[x.1])=ints W++[.int .i64 x.1]:=by simp [ints]
  rw [e] at ih;exact pi_s n fu hn rm m p nx st l i ls hls W j x.1 (by omega) x.2 (by simpa using lksL_at hx) (by omega) j hl (by omega) _ ih
theorem pi_all(n:Nat)(hn:400<=n)(rm:Int)(m:ML)(p:PL)(nx st:Int)(l:List Act5)(i:Int)(ls:ML)(hls:ls.length<=1000)(h0:0<ls.length)(hn2:ls.length<n):
  Z2 prog C0 (n+800) 26 1 0 (n+800) (plF l .nils i (.sl 2 2 0 ls.length none) 0) (plL0 rm m p nx st (Zp ls))=some (.exit 3,plE l (.sl 1 2 0 ls.length none) i,plS rm m p nx st (atL ls)):=by
 cases ls with
 | nil=>simp at h0
 | cons x q =>
  have I:=pi_loop n hn rm m p nx st l i (x::q) hls q 1 (n+799) [x.1] rfl rfl (by simp) (by simp at hn2;omega)
  exact pi_0 n (n+799) hn rm m p nx st l i (x::q) hls x.1 x.2 0 (by omega) rfl (by simp) _ I
noncomputable abbrev plLp(n:Nat)(l:List Act5)(fu:Nat)(i:Int)(F:Option (List Int × Nat))(m:ML)(p:PL)(nx st:Int):Option (LX × LEnv × St):=
 Z2 prog C0 (n+800) 26 0 0 fu (plE l (stV F) i) (stT 4000 m p nx st F)
theorem blks46(a:Nat):46*Zo a<=a+46:=by unfold Zo;split <;> omega
theorem atL_app(l:ML)(x:Int × List Int):atL (l++[x])=atL l++[x.1]:=by simp [atL]
theorem pl_act(l:List Act5)(hl:l.length<=40)(i:Nat)(x:Act5)(hx:l[i]? = some x)(hk:x.keep.length<=60)(hby:byB x.b)(c:Nat)(hc:c+x.b.length<=3000)(B:Nat)(m:ML)(p:PL)(nx st:Int)(L:ML)(last:Int)(F:Option (List Int × Nat))(I:CI B m p nx st L last)(hF:stOk (300+i) L F)(hB:46*B<=c+46*i):
  ∃ B' m' p' nx' st' L' last' F',CI B' m' p' nx' st' L' last'/\stOk (300+(i+1)) L' F'/\46*B'<=(c+x.b.length)+46*(i+1) /\
   ∀ n,800<=n->∀ fu r,plLp n l fu ((i:Int)+1) F' m' p' nx' st'=some r->plLp n l (fu+1) i F m p nx st=some r:=by
 have hi:=(List.getElem?_eq_some_iff.1 hx).1;have h5:=ops5_at hx;obtain ⟨kind,a,b,ks,u⟩:=x
 simp only at hk hby hc h5;have hi0:(0:Int)<=(i:Int):=by omega
 have hi1:(i:Int)<(l.length:Int):=by omega
 have h5':(Zf l)[((i:Nat):Int).toNat]? = some (.agg [.int .i64 kind,.int .i64 a,.isl 1 (bys b),.isl 1 (ints ks),.int .i64 u]):=by simpa using h5
 have hBB:B<=255:=by omega
 by_cases k0:kind=0
 ·by_cases hb0:b.length=0
  ·have hb:b=[]:=List.length_eq_zero_iff.1 hb0
   subst hb;have E:AppF 4000 m p p nx st nx st [] (.tup [.int .i64 0,.ifc 115 (.agg [.str [114,101,99,111,114,100],.int .i64 0,.ifc 71 (.int .i64 6)])]):=fun j hj=>append_lim (j+105) 3 nx st 4000 m p
   refine ⟨B,m,p,nx,st,L,last,F,I,?_,by simp;omega,fun n hn fu r hr=>?_⟩
   ·cases F with
    | none=>exact hF
    | some q=>exact ⟨hF.1,Nat.le_trans hF.2.1 (by omega),hF.2.2⟩
   ·cases F with
    | none=>exact pl_eN n fu (by omega) 4000 m m p p nx st nx st l (by omega) i hi0 hi1 kind a u [] ks h5' k0 E r hr
    | some q=>exact pl_eS n fu (by omega) 4000 m m p p nx st nx st l (by omega) i hi0 hi1 kind a u [] ks h5' q.1 q.2 (by have:=hF.2.1;omega) hF.1 k0 E r hr
  ·have hN:=blks46 b.length
   have I2:=I.append (b:=b) (by omega) (by omega) hby (by omega)
   have E:AppF 4000 m p _ nx st _ _ b (.tup [.int .i64 nx,.nili]):=fun j hj=>I.appendF (b:=b) (by omega) (by omega) (by omega) j hj
   cases F with
   | none =>
    have hL:L=[]:=hF;subst hL;exact ⟨_,_,_,_,_,_,_,some ([nx],1),I2,⟨by simp,by simp;omega,rfl⟩,by show 46*_<=c+b.length+46*(i+1);omega,fun n hn fu r hr=>pl_aN n fu (by omega) 4000 m m p _ nx st _ _ l (by omega) i hi0 hi1 kind a u b ks h5' k0 E r hr⟩
   | some q =>
    obtain ⟨W,k⟩:=q
    obtain ⟨f1,f2,f3⟩:=hF
    by_cases hkW:k<W.length
    ·refine ⟨_,_,_,_,_,_,_,some (W.set k nx,k+1),I2,⟨by simp;omega,by simp;omega,?_⟩,by show 46*_<=c+b.length+46*(i+1);omega,fun n hn fu r hr=>?_⟩
     ·rw [atL_app,<- f3,List.take_add_one,List.getElem?_set_self hkW,List.take_set_of_le (Nat.le_refl _)];rfl
     ·have e:=ints_splice (x:=nx) hkW
      refine pl_aI n fu (by omega) 4000 m m p _ nx st _ _ l (by omega) i hi0 hi1 kind a u b ks h5' W k (by omega) hkW k0 E r ?_
      rw [e];exact hr
    ·obtain rfl:k=W.length:=by omega
     refine ⟨_,_,_,_,_,_,_,some (W++[nx],W.length+1),I2,⟨by simp,by simp;omega,?_⟩,by show 46*_<=c+b.length+46*(i+1);omega,fun n hn fu r hr=>?_⟩
     ·rw [atL_app,<- f3,List.take_length,List.take_of_length_le (by simp)]
     ·have e:ints (W++[nx])=ints W++[.int .i64 nx]:=by simp [ints]
      refine pl_aG n fu (by omega) 4000 m m p _ nx st _ _ l (by omega) i hi0 hi1 kind a u b ks h5' W W.length (by omega) rfl k0 E r ?_
      rw [<- e];exact hr
 by_cases k1:kind=1
 ·have E:SynF 4000 m (Yn p m) p nx st:=fun j hj=>I.csync hBB j hj 4000
  refine ⟨B,_,_,nx,st,L,last,F,I.sync,?_,by omega,fun n hn fu r hr=>?_⟩
  ·cases F with
   | none=>exact hF
   | some q=>exact ⟨hF.1,Nat.le_trans hF.2.1 (by omega),hF.2.2⟩
  ·cases F with
   | none=>exact pl_sN n fu (by omega) 4000 m _ p p nx st nx st l (by omega) i hi0 hi1 kind a u b ks h5' k1 E r hr
   | some q=>exact pl_sS n fu (by omega) 4000 m _ p p nx st nx st l (by omega) i hi0 hi1 kind a u b ks h5' q.1 q.2 (by have:=hF.2.1;omega) hF.1 k1 E r hr
 by_cases k2:kind=2
 ·cases F with
  | none =>
   have E:BakF 0 a (bk 0 a):=fun j=>back_ok j 0 a (by omega) (by omega)
   refine ⟨B,m,p,nx,st,L,last,none,I,hF,by omega,fun n hn fu r hr=>?_⟩
   by_cases hq:bk 0 a<0
   ·exact pl_kN n fu (by omega) 4000 m m p p nx st nx st l (by omega) i hi0 hi1 kind a u b ks h5' k2 _ hq E r hr
   ·exact pl_kM n fu (by omega) 4000 m m p p nx st nx st l (by omega) i hi0 hi1 kind a u b ks h5' k2 _ (by omega) E r hr
  | some q =>
   obtain ⟨W,k⟩:=q
   obtain ⟨f1,f2,f3⟩:=hF;have E:BakF k a (bk k a):=fun j=>back_ok j k a (by omega) (by omega)
   by_cases hq:bk k a<0
   ·exact ⟨B,m,p,nx,st,L,last,some (W,k),I,⟨f1,by omega,f3⟩,by omega,fun n hn fu r hr=>pl_kT n fu (by omega) 4000 m m p p nx st nx st l (by omega) i hi0 hi1 kind a u b ks h5' W k (by omega) f1 k2 _ hq E r hr⟩
   by_cases hq2:(k:Int)<=bk k a
   ·exact ⟨B,m,p,nx,st,L,last,some (W,k),I,⟨f1,by omega,f3⟩,by omega,fun n hn fu r hr=>pl_kS n fu (by omega) 4000 m m p p nx st nx st l (by omega) i hi0 hi1 kind a u b ks h5' W k (by omega) f1 k2 _ (by omega) hq2 E r hr⟩
   generalize bk k a=Q at *;have hql:Q.toNat<k:=by omega
   have hlen:L.length=k:=by
    have:=congrArg List.length f3;simp [atL] at this;omega
   have hLx:L[Q.toNat]? = some L[Q.toNat]:=List.getElem?_eq_getElem (by omega)
   generalize L[Q.toNat]=y at hLx;have hWx:W[Q.toNat]? = some y.1:=by
    have:=congrArg (fun z=>z[Q.toNat]?) f3
    simp only [List.getElem?_take,hql,if_true,atL,List.getElem?_map,hLx,Option.map_some] at this;exact this
   obtain ⟨c1,c2,I2⟩:=I.cut (k:=Q.toNat) (at_:=y.1) (o:=y.2) hLx (by omega)
   have C:CutF 4000 m _ p nx st y.1:=fun j hj=>I.cutF c1 c2 (by omega) j (by omega)
   refine ⟨_,_,_,_,_,_,_,some (W,Q.toNat),I2,⟨by omega,by omega,?_⟩,by omega,fun n hn fu r hr=>?_⟩
   ·have:=congrArg (fun z=>z.take Q.toNat) f3
    simp only [List.take_take,Nat.min_eq_left (Nat.le_of_lt hql)] at this;rw [this];simp [atL,List.map_take]
   ·exact pl_kC n fu (by omega) 4000 m _ p p nx st nx st l (by omega) i hi0 hi1 kind a u b ks h5' W k (by omega) f1 k2 Q (by omega) (by omega) E y.1 (ints_at' hWx) C r hr
 by_cases k5:kind=5
 ·obtain ⟨z1,z2,z3,z4⟩:=I.lost ks u
  have I2:=CI.fresh z1 z2 I.pos.2.1 I.stB hBB z3 z4;have C:CraF 4000 m (Xf m p ks u) p ks u:=fun j hj=>I.crash hBB j hj 4000 ks u
  have O0:=fun j (hj:400<=j)=>fresh_open j hj 4000 z1 z2 I.pos.2.1 hBB z3 z4
  have hlen:=I2.run.length;have hnx:=I2.nxB;generalize Zr (rd (Xf m p ks u) []) B 3 0=K at *;obtain ⟨ls,nx',last'⟩:=K
  simp only at I2 O0 hlen hnx;have hll:ls.length<=255:=by omega
  cases hls:ls with
  | nil =>
   subst hls;refine ⟨B,_,_,_,_,[],_,none,I2,rfl,by omega,fun n hn fu r hr=>?_⟩
   cases F with
   | none=>exact pl_cNN n fu (by omega) 4000 m _ p p nx st _ _ l (by omega) i hi0 hi1 kind a u b ks h5' k5 C O0 r hr
   | some q=>exact pl_cSN n fu (by omega) 4000 m _ p p nx st _ _ l (by omega) i hi0 hi1 kind a u b ks h5' q.1 q.2 (by have:=hF.2.1;omega) hF.1 k5 C O0 r hr
  | cons x q =>
   have h0:0<ls.length:=by rw [hls];simp
   have O1:∀ j,400<=j->Zd prog C0 (Z3 prog C0 (j+100)) (j+100) 28 [.ptr 0 0,.int .i64 3,.int .i64 3] ⟨1,[(0,dO 4000 (Xf m p ks u) [])]⟩=some (.tup [.ptr 1 0,.sl 2 2 0 ls.length none,.nili],opS 4000 (Xf m p ks u) [] 3 nx' (topS 3 (Xf m p ks u) (last'+1)) (Zp ls)):=by
    rw [hls] at O0 ⊢;exact O0
   have P:=fun (n:Nat) (hn:800<=n)=>pi_all n (by omega) 4000 (Xf m p ks u) [] nx' (topS 3 (Xf m p ks u) (last'+1)) l i ls (by omega) h0 (by omega)
   refine ⟨B,_,_,_,_,ls,_,some (atL ls,ls.length),I2,⟨by simp [atL],by rw [show (atL ls).length=ls.length by simp [atL]];omega,List.take_of_length_le (by simp [atL])⟩,by omega,fun n hn fu r hr=>?_⟩
   cases F with
   | none=>exact pl_cNS n fu (by omega) 4000 m _ p p nx st _ _ l (by omega) i hi0 hi1 kind a u b ks h5' k5 C ls (by omega) O1 _ _ (P n hn) r hr
   | some q=>exact pl_cSS n fu (by omega) 4000 m _ p p nx st _ _ l (by omega) i hi0 hi1 kind a u b ks h5' q.1 q.2 (by have:=hF.2.1;omega) hF.1 k5 C ls (by omega) O1 _ _ (P n hn) r hr
 ·refine ⟨B,m,p,nx,st,L,last,F,I,?_,by omega,fun n hn fu r hr=>?_⟩
  ·cases F with
   | none=>exact hF
   | some q=>exact ⟨hF.1,Nat.le_trans hF.2.1 (by omega),hF.2.2⟩
  ·cases F with
   | none=>exact pl_oN n fu (by omega) 4000 m m p p nx st nx st l (by omega) i hi0 hi1 kind a u b ks h5' k0 k1 k2 k5 r hr
   | some q=>exact pl_oS n fu (by omega) 4000 m m p p nx st nx st l (by omega) i hi0 hi1 kind a u b ks h5' q.1 q.2 (by have:=hF.2.1;omega) hF.1 k0 k1 k2 k5 r hr
theorem pl_loop(l:List Act5)(hl:l.length<=40)(hok:∀ x∈l,byB x.b):∀ (q:List Act5) (i c:Nat),l.drop i=q->i<=l.length->Ws q c=true ->
  ∀ (B:Nat) (m:ML) (p:PL) (nx st:Int) (L:ML) (last:Int) (F:Option (List Int × Nat)),CI B m p nx st L last->stOk (300+i) L F->46*B<=c+46*i->c<=3000 ->
  ∃ B' m' p' nx' st' L' last',CI B' m' p' nx' st' L' last'/\46*B'<=3000+46*40/\∀ n,800<=n->∀ fu,q.length<fu->plLp n l fu (i:Int) F m p nx st=some (.exit 0,plX,plN 4000 m' p' nx' st')
 | [],i,c,hd,hi,hj,B,m,p,nx,st,L,last,F,I,hF,hB,hc=>by
  have:l.length<=i:=by simpa using hd
  obtain rfl:i=l.length:=by omega
  refine ⟨B,m,p,nx,st,L,last,I,by omega,fun n hn fu hf=>?_⟩
  obtain ⟨fu,rfl⟩:∃ q,fu=q+1:=⟨fu-1,by simp at hf;omega⟩
  cases F with
  | none=>exact pl_xN n fu 4000 m p nx st l
  | some q=>exact pl_xS n fu 4000 m p nx st l q.1 q.2 (by have:=hF.2.1;omega) hF.1
 | x::q,i,c,hd,hi,hj,B,m,p,nx,st,L,last,F,I,hF,hB,hc=>by
  have hx:l[i]? = some x:=by
   have:=congrArg List.head? hd;simpa [List.head?_drop] using this
  have hlt:=(List.getElem?_eq_some_iff.1 hx).1;have hd2:l.drop (i+1)=q:=by rw [<- List.drop_drop,hd];rfl
  have hb:=lightJ_by hj x List.mem_cons_self;obtain ⟨B',m',p',nx',st',L',last',F',I',hF',hB',A⟩:=pl_act l hl i x hx hb.1 (hok x (List.mem_of_getElem? hx)) c (by omega) B m p nx st L last F I hF hB
  have hj2:Ws q ((c+x.b.length:Nat):Int)=true:=by
   rw [Ws,if_neg (by omega)] at hj
   rw [show ((c+x.b.length:Nat):Int)=(c:Int)+x.b.length by omega];exact hj
  obtain ⟨B2,m2,p2,nx2,st2,L2,last2,I2,hB2,A2⟩:=pl_loop l hl hok q (i+1) (c+x.b.length) hd2 (by omega) hj2 B' m' p' nx' st' L' last' F' I' hF' hB' (by omega)
  refine ⟨B2,m2,p2,nx2,st2,L2,last2,I2,hB2,fun n hn fu hf=>?_⟩
  obtain ⟨fu,rfl⟩:∃ q,fu=q+1:=⟨fu-1,by simp at hf;omega⟩
  exact A n hn fu _ (A2 n hn fu (by simp at hf;omega))
theorem CI.nil:CI 0 [] [] 3 1 [] 0:=
 ⟨okM.nil,okQ.nil,fun x h=>by simp at h,fun x h=>by simp at h,fun x h=>by simp at h,fun x h=>by simp at h,.nil _ _,by omega,Sml.stop (t:=1) (.zero (by omega)) (by omega) (by omega) (by omega),by omega,by omega,by rw [needs_of [] okM.nil.1];simp,by simp⟩
theorem played_any(l:List Act5)(h9:light9 l=true)(hok:∀ x∈l,byB x.b):∃ B m p nx st L last,CI B m p nx st L last/\46*B<=3000+46*40 /\
  ∀ n,800<=n->Zd prog C0 (Z3 prog C0 (n+800)) (n+800) 26 [.isl 5 (Zf l)] ⟨0,[]⟩=some (.tup [.ptr 0 0,.ptr 1 0],⟨2,[(0,dO 4000 m p),(1,chD 3 nx st)]⟩):=by
 unfold light9 at h9
 split at h9
 ·simp at h9
 ·rename_i hl
  obtain ⟨B,m,p,nx,st,L,last,I,hB,A⟩:=pl_loop l (by omega) hok l 0 0 rfl (by omega) h9 0 [] [] 3 1 [] 0 none CI.nil rfl (by omega) (by omega)
  refine ⟨B,m,p,nx,st,L,last,I,hB,fun n hn=>?_⟩
  exact pl_thru n (by omega) l m p nx st (fun j hj=>CI.nil.open_ (by omega) j hj 4000) (A n hn (n+800) (by omega))
end Go.Mac
