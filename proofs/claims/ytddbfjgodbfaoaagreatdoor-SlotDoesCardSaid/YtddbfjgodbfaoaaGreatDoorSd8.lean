/-
 SlotDoes holds for every input: each call is answered, and both blocks are, as the reference says; the condition is the card's own.
-/
import Derived.Test.YtddbfjgodbfaoaaGreatDoorSd7
set_option linter.unusedVariables false
set_option linter.unusedSimpArgs false
namespace Go.Mac
open Go Go.Eng Go.Proofs Go.Mac.Nd
open Go.IntKind (i64)
open Go.Proofs.Tryz (prog)
set_option maxHeartbeats 0
set_option maxRecDepth 100000
abbrev boxW(a:Int)(f:Bool)(b:LV):LObj:=.box 121 [.int .i64 a,.bool f,b]
abbrev puN(a:Int)(f:Bool)(b:LV):St:=⟨1,[(0,boxW a f b)]⟩
abbrev puS(a:Int)(f:Bool)(b:LV)(o:ML):St:=⟨2,[(0,boxW a f b),(1,.row 126 2 (Z1 o))]⟩
@[simp] theorem cellsR_snoc(o:ML)(a:Int)(b:List Int):Z1 o++[.agg [.int .i64 a,.isl 1 (bys b)]]=Z1 (o++[(a,b)]):=by simp [Z1,cellR]
@[simp] theorem cellsR_snoc2(o:ML)(a c:Int)(b v:List Int):Z1 o++[.agg [.int .i64 a,.isl 1 (bys b)],.agg [.int .i64 c,.isl 1 (bys v)]]=Z1 (o++[(a,b),(c,v)]):=by simp [Z1,cellR]
abbrev puE(m:ML)(ov:LV)(d:Bool)(i:Int):LEnv:=[.isl 2 (Z1 m),.any,.any,.ptr 0 0,.any,ov,.bool d,.int i64 i,.any,.any,.any,.any,.any,.any,.any,.any,.any,.any,.any,.any,.any,.any,.any,.any,.any,.any,.any,.any,.any,.any,.any,.any,.any,.any,.any,.any,.any,.any,.any,.any,.any,.any,.any,.any,.any,.any,.any,.any,.any,.any,.any,.any,.any,.any,.any,.any,.any,.any,.any,.any,.any,.any]
abbrev puX(m:ML)(ov:LV)(d:Bool)(i:Int):LEnv:=[.isl 2 (Z1 m),.any,.any,.ptr 0 0,.any,ov,.bool d,.int i64 i,.any,.any,.int i64 i,.isl 2 (Z1 m),.int i64 ((Z1 m).length:Int),.bool (decide (i<((Z1 m).length:Int))),.any,.any,.any,.any,.any,.any,.any,.any,.any,.any,.any,.any,.any,.any,.any,.any,.any,.any,.any,.any,.any,.any,.any,.any,.any,.any,.any,.any,.any,.any,.any,.any,.any,.any,.any,.any,.any,.any,.any,.any,.any,.any,.any,.any,.any,.any,.any,.any]
theorem zq8_0(a0:Int)(a1:List Int):LObj.row 126 2 (List.take 1 (List.drop 0 (List.set [.agg [.int i64 0,.nils]] 0 (LV.agg [.int i64 a0,.isl 1 (bys a1)]))))=LObj.row 126 2 [.agg [.int i64 a0,.isl 1 (bys a1)]]:=by simp
theorem pw_keepN(n fu:Nat)(m:ML)(hm:m.length<=100000)(a:Int)(b:List Int)(i:Int)(h0:0<=i)(hi:i<(m.length:Int))(c:Int)(v:List Int)(hx:(Z1 m)[i.toNat]? = some (.agg [.int .i64 c,.isl 1 (bys v)]))(hc:c<a)(r:LX × LEnv × St)(hr:Z2 prog Ck (n+40) 59 0 0 fu (puE m (.sl 2 1 0 1 none) false (i+1)) (puS a false (.isl 1 (bys b)) [(c,v)])=some r):Z2 prog Ck (n+40) 59 0 0 (fu+1) (puE m .nils false i) (puN a false (.isl 1 (bys b)))=some r:=by
 have f1:decide (i<((Z1 m).length:Int))=true:=by simp;omega
 have f2:(Z1 m)[i.toNat]? = some (LV.agg [.int i64 c,.isl 1 (bys v)]):=hx;have f3:0<=i/\i<((Z1 m).length:Int):=by simp;omega
 have f4:LV.bool (if true=true then decide (a<=c) else false)=LV.bool false:=by simp;omega
 have f5:(!decide (c=a))=true:=by simp;omega
 have f6:LV.int i64 (IntKind.wrap i64 (i+1))=LV.int i64 (i+1):=by simp (disch:=omega)
 have f7:=zq8_0 c v;have f8:=hr;exact dlp (fun h=>ai (congrArg LV.bool f1)<|ai (f3)<|ai (f2)<|ai (f4)<|ai (f3)<|ai (f2)<|ai (congrArg LV.bool f5)<|ai (f3)<|ai (f2)<|ai (f6)<|ai (congrArg some f7)<|ai (Eq.refl (Z9 f8))<|ai (f8)<|h) (.i (.s (.s (.a) (.b true (.a))) (.s (.k (.s (.s (.d [] [.a,.a,.a,.a,.a,.e (rOf f2),.a,.a,.a,.a] [] [.a,.v (vOf f4) (.a)]) (.a)) (.s (.d [] [.a,.a,.e (rOf f2),.a,.a,.a,.a] [] []) (.b true (.r [.a,.a,.a,.e (rOf f2)]))))) (.r [.a,.v (vOf f6) (.a)]))) (.h [.x 1 (vOf f7)] (eOf f8) (Zp f8) (rOf f8))) (by kernel_rfl)
theorem zq8_2(a0:Int)(a1:List Int):LObj.row 126 2 (List.set [.agg [.int i64 0,.nils]] 0 (LV.agg [.int i64 a0,.isl 1 (bys a1)]))=LObj.row 126 2 [.agg [.int i64 a0,.isl 1 (bys a1)]]:=by simp
theorem pw_eqN(n fu:Nat)(m:ML)(hm:m.length<=100000)(a:Int)(b:List Int)(i:Int)(h0:0<=i)(hi:i<(m.length:Int))(c:Int)(v:List Int)(hx:(Z1 m)[i.toNat]? = some (.agg [.int .i64 c,.isl 1 (bys v)]))(hc:c=a)(r:LX × LEnv × St)(hr:Z2 prog Ck (n+40) 59 0 0 fu (puE m (.sl 2 1 0 1 none) true (i+1)) (puS a false (.isl 1 (bys b)) [(a,b)])=some r):Z2 prog Ck (n+40) 59 0 0 (fu+1) (puE m .nils false i) (puN a false (.isl 1 (bys b)))=some r:=by
 have f1:decide (i<((Z1 m).length:Int))=true:=by simp;omega
 have f2:(Z1 m)[i.toNat]? = some (LV.agg [.int i64 c,.isl 1 (bys v)]):=hx;have f3:0<=i/\i<((Z1 m).length:Int):=by simp;omega
 have f4:LV.irp (LV.agg [.int i64 c,.isl 1 (bys v)])=LV.irp (LV.agg [.int i64 a,.isl 1 (bys v)]):=by simp;omega
 have f5:LV.bool (if true=true then decide (a<=a) else false)=LV.bool true:=by simp
 have f6:=zq8_0 a b;have f7:=zq8_2 a b;have f8:(!decide (a=a))=false:=by simp
 have f9:LV.int i64 (IntKind.wrap i64 (i+1))=LV.int i64 (i+1):=by simp (disch:=omega)
 have f10:=hr;exact dlp (fun h=>ai (congrArg LV.bool f1)<|ai (f3)<|ai (f2)<|ai (f4)<|ai (f5)<|ai (f3)<|ai (f2)<|ai (f4)<|ai (congrArg some f6)<|ai (congrArg some f7)<|ai (congrArg LV.bool f8)<|ai (f9)<|ai (Eq.refl (Z9 f10))<|ai (f10)<|h) (.i (.s (.s (.a) (.b true (.a))) (.s (.k (.s (.s (.d [] [.a,.a,.a,.a,.a,.v (vOf f4) (.e (rOf f2)),.a,.a,.a,.a] [] [.a,.v (vOf f5) (.a)]) (.a)) (.s (.d [] [.a,.a,.x 1 (vOf f7) (.x 2 (vOf f6) (.v (vOf f4) (.e (rOf f2)))),.a,.a,.a,.a] [] []) (.b false (.a))))) (.r [.a,.v (vOf f9) (.a)]))) (.h [] (eOf f10) (Zp f10) (rOf f10))) (by kernel_rfl)
theorem pw_gtN(n fu:Nat)(m:ML)(hm:m.length<=100000)(a:Int)(b:List Int)(i:Int)(h0:0<=i)(hi:i<(m.length:Int))(c:Int)(v:List Int)(hx:(Z1 m)[i.toNat]? = some (.agg [.int .i64 c,.isl 1 (bys v)]))(hc:a<c)(r:LX × LEnv × St)(hr:Z2 prog Ck (n+40) 59 0 0 fu (puE m (.sl 2 1 0 2 none) true (i+1)) (puS a false (.isl 1 (bys b)) [(a,b),(c,v)])=some r):Z2 prog Ck (n+40) 59 0 0 (fu+1) (puE m .nils false i) (puN a false (.isl 1 (bys b)))=some r:=by
 have f1:decide (i<((Z1 m).length:Int))=true:=by simp;omega
 have f2:(Z1 m)[i.toNat]? = some (LV.agg [.int i64 c,.isl 1 (bys v)]):=hx;have f3:0<=i/\i<((Z1 m).length:Int):=by simp;omega
 have f4:LV.bool (if true=true then decide (a<=c) else false)=LV.bool true:=by simp;omega
 have f5:=zq8_0 a b;have f6:=zq8_2 a b;have f7:(!decide (c=a))=true:=by simp;omega
 have f8:LV.int i64 (IntKind.wrap i64 (i+1))=LV.int i64 (i+1):=by simp (disch:=omega)
 have f9:LObj.row 126 2 ([.agg [.int i64 a,.isl 1 (bys b)]]++List.take 1 (List.drop 0 (List.set [.agg [.int i64 0,.nils]] 0 (LV.agg [.int i64 c,.isl 1 (bys v)]))))=LObj.row 126 2 [.agg [.int i64 a,.isl 1 (bys b)],.agg [.int i64 c,.isl 1 (bys v)]]:=by simp
 have f10:=hr;exact dlp (fun h=>ai (congrArg LV.bool f1)<|ai (f3)<|ai (f2)<|ai (f4)<|ai (f3)<|ai (f2)<|ai (congrArg some f5)<|ai (congrArg some f6)<|ai (congrArg LV.bool f7)<|ai (f3)<|ai (f2)<|ai (f8)<|ai (congrArg some f9)<|ai (Eq.refl (Z9 f10))<|ai (f10)<|h) (.i (.s (.s (.a) (.b true (.a))) (.s (.k (.s (.s (.d [] [.a,.a,.a,.a,.a,.e (rOf f2),.a,.a,.a,.a] [] [.a,.v (vOf f4) (.a)]) (.a)) (.s (.d [] [.a,.a,.x 1 (vOf f6) (.x 2 (vOf f5) (.e (rOf f2))),.a,.a,.a,.a] [] []) (.b true (.r [.a,.a,.a,.e (rOf f2)]))))) (.r [.a,.v (vOf f8) (.a)]))) (.h [.x 1 (vOf f9)] (eOf f10) (Zp f10) (rOf f10))) (by kernel_rfl)
theorem pw_endN(n fu:Nat)(m:ML)(hm:m.length<=100000)(a:Int)(b:List Int)(i:Int)(hi:(m.length:Int)<=i):
  Z2 prog Ck (n+40) 59 0 0 (fu+1) (puE m .nils false i) (puN a false (.isl 1 (bys b)))=some (.exit 0,puX m .nils false i,(puN a false (.isl 1 (bys b)))):=by
 have f1:decide (i<((Z1 m).length:Int))=false:=by simp;omega
 exact dlp (fun h=>ai (congrArg LV.bool f1)<|h) (.i (.s (.s (.a) (.b false (.a))) .a) (.a)) (by kernel_rfl)
theorem pf_keepN(n fu:Nat)(m:ML)(hm:m.length<=100000)(a:Int)(i:Int)(h0:0<=i)(hi:i<(m.length:Int))(c:Int)(v:List Int)(hx:(Z1 m)[i.toNat]? = some (.agg [.int .i64 c,.isl 1 (bys v)]))(hc:¬ c=a)(r:LX × LEnv × St)(hr:Z2 prog Ck (n+40) 59 0 0 fu (puE m (.sl 2 1 0 1 none) true (i+1)) (puS a true .nils [(c,v)])=some r):Z2 prog Ck (n+40) 59 0 0 (fu+1) (puE m .nils true i) (puN a true .nils)=some r:=by
 have f1:decide (i<((Z1 m).length:Int))=true:=by simp;omega
 have f2:(Z1 m)[i.toNat]? = some (LV.agg [.int i64 c,.isl 1 (bys v)]):=hx;have f3:0<=i/\i<((Z1 m).length:Int):=by simp;omega
 have f4:(!decide (c=a))=true:=by simp;omega
 have f5:LV.int i64 (IntKind.wrap i64 (i+1))=LV.int i64 (i+1):=by simp (disch:=omega)
 have f6:=zq8_0 c v;have f7:=hr;exact dlp (fun h=>ai (congrArg LV.bool f1)<|ai (f3)<|ai (f2)<|ai (congrArg LV.bool f4)<|ai (f3)<|ai (f2)<|ai (f5)<|ai (congrArg some f6)<|ai (Eq.refl (Z9 f7))<|ai (f7)<|h) (.i (.s (.s (.a) (.b true (.a))) (.s (.k (.s (.a) (.s (.d [] [.a,.a,.e (rOf f2),.a,.a,.a,.a] [] []) (.b true (.r [.a,.a,.a,.e (rOf f2)]))))) (.r [.a,.v (vOf f5) (.a)]))) (.h [.x 1 (vOf f6)] (eOf f7) (Zp f7) (rOf f7))) (by kernel_rfl)
theorem pf_eqN(n fu:Nat)(m:ML)(hm:m.length<=100000)(a:Int)(i:Int)(h0:0<=i)(hi:i<(m.length:Int))(c:Int)(v:List Int)(hx:(Z1 m)[i.toNat]? = some (.agg [.int .i64 c,.isl 1 (bys v)]))(hc:c=a)(r:LX × LEnv × St)(hr:Z2 prog Ck (n+40) 59 0 0 fu (puE m .nils true (i+1)) (puN a true .nils)=some r):Z2 prog Ck (n+40) 59 0 0 (fu+1) (puE m .nils true i) (puN a true .nils)=some r:=by
 have f1:decide (i<((Z1 m).length:Int))=true:=by simp;omega
 have f2:(Z1 m)[i.toNat]? = some (LV.agg [.int i64 c,.isl 1 (bys v)]):=hx;have f3:0<=i/\i<((Z1 m).length:Int):=by simp;omega
 have f4:LV.irp (LV.agg [.int i64 c,.isl 1 (bys v)])=LV.irp (LV.agg [.int i64 a,.isl 1 (bys v)]):=by simp;omega
 have f5:(!decide (a=a))=false:=by simp
 have f6:LV.int i64 (IntKind.wrap i64 (i+1))=LV.int i64 (i+1):=by simp (disch:=omega)
 have f7:=hr;exact dlp (fun h=>ai (congrArg LV.bool f1)<|ai (f3)<|ai (f2)<|ai (f4)<|ai (congrArg LV.bool f5)<|ai (f6)<|ai (Eq.refl (Z9 f7))<|ai (f7)<|h) (.i (.s (.s (.a) (.b true (.a))) (.s (.k (.s (.a) (.s (.d [] [.a,.a,.v (vOf f4) (.e (rOf f2)),.a,.a,.a,.a] [] []) (.b false (.a))))) (.r [.a,.v (vOf f6) (.a)]))) (.h [] (eOf f7) (Zp f7) (rOf f7))) (by kernel_rfl)
theorem pf_endN(n fu:Nat)(m:ML)(hm:m.length<=100000)(a:Int)(i:Int)(hi:(m.length:Int)<=i):
  Z2 prog Ck (n+40) 59 0 0 (fu+1) (puE m .nils true i) (puN a true .nils)=some (.exit 0,puX m .nils true i,(puN a true .nils)):=by
 have f1:decide (i<((Z1 m).length:Int))=false:=by simp;omega
 exact dlp (fun h=>ai (congrArg LV.bool f1)<|h) (.i (.s (.s (.a) (.b false (.a))) .a) (.a)) (by kernel_rfl)
theorem zq8_3(a0:ML)(a1:Int)(a2:List Int):LObj.row 126 2 (Z1 a0++List.take 1 (List.drop 0 (List.set [.agg [.int i64 0,.nils]] 0 (LV.agg [.int i64 a1,.isl 1 (bys a2)]))))=LObj.row 126 2 (Z1 (a0++[(a1,a2)])):=by simp
theorem pw_keepR(n fu:Nat)(m:ML)(hm:m.length<=100000)(o:ML)(ho:o.length<=100000)(ho2:0<o.length)(a:Int)(b:List Int)(i:Int)(h0:0<=i)(hi:i<(m.length:Int))(c:Int)(v:List Int)(hx:(Z1 m)[i.toNat]? = some (.agg [.int .i64 c,.isl 1 (bys v)]))(hc:c<a)(r:LX × LEnv × St)(hr:Z2 prog Ck (n+40) 59 0 0 fu (puE m (.sl 2 1 0 (o.length+1) none) false (i+1)) (puS a false (.isl 1 (bys b)) (o++[(c,v)]))=some r):Z2 prog Ck (n+40) 59 0 0 (fu+1) (puE m (.sl 2 1 0 o.length none) false i) (puS a false (.isl 1 (bys b)) o)=some r:=by
 have f1:decide (i<((Z1 m).length:Int))=true:=by simp;omega
 have f2:(Z1 m)[i.toNat]? = some (LV.agg [.int i64 c,.isl 1 (bys v)]):=hx;have f3:0<=i/\i<((Z1 m).length:Int):=by simp;omega
 have f4:LV.bool (if true=true then decide (a<=c) else false)=LV.bool false:=by simp;omega
 have f5:(!decide (c=a))=true:=by simp;omega
 have f6:1<=1:=by omega
 have f7:List.length (Z1 o)=List.length o/\(List.length o+1)*32<=140737488355328:=by simp;omega
 have f8:=zq8_3 o c v;have f9:=zq8_2 c v;have f10:LV.int i64 (IntKind.wrap i64 (i+1))=LV.int i64 (i+1):=by simp (disch:=omega)
 have f11:=hr;exact dlp (fun h=>ai (congrArg LV.bool f1)<|ai (f3)<|ai (f2)<|ai (f4)<|ai (f3)<|ai (f2)<|ai (congrArg LV.bool f5)<|ai (f3)<|ai (f2)<|ai (f6)<|ai (f7)<|ai (congrArg some f8)<|ai (congrArg some f9)<|ai (f10)<|ai (Eq.refl (Z9 f11))<|ai (f11)<|h) (.i (.s (.s (.a) (.b true (.a))) (.s (.k (.s (.s (.d [] [.a,.a,.a,.a,.a,.e (rOf f2),.a,.a,.a,.a] [] [.a,.v (vOf f4) (.a)]) (.a)) (.s (.d [] [.a,.a,.e (rOf f2),.a,.a,.a,.a] [] []) (.b true (.r [.a,.a,.a,.e (rOf f2),.a,.a,.x 2 (vOf f9) (.x 3 (vOf f8) (.q))]))))) (.r [.a,.v (vOf f10) (.a)]))) (.h [] (eOf f11) (Zp f11) (rOf f11))) (by kernel_rfl)
theorem pw_eqR(n fu:Nat)(m:ML)(hm:m.length<=100000)(o:ML)(ho:o.length<=100000)(ho2:0<o.length)(a:Int)(b:List Int)(i:Int)(h0:0<=i)(hi:i<(m.length:Int))(c:Int)(v:List Int)(hx:(Z1 m)[i.toNat]? = some (.agg [.int .i64 c,.isl 1 (bys v)]))(hc:c=a)(r:LX × LEnv × St)(hr:Z2 prog Ck (n+40) 59 0 0 fu (puE m (.sl 2 1 0 (o.length+1) none) true (i+1)) (puS a false (.isl 1 (bys b)) (o++[(a,b)]))=some r):Z2 prog Ck (n+40) 59 0 0 (fu+1) (puE m (.sl 2 1 0 o.length none) false i) (puS a false (.isl 1 (bys b)) o)=some r:=by
 have f1:decide (i<((Z1 m).length:Int))=true:=by simp;omega
 have f2:(Z1 m)[i.toNat]? = some (LV.agg [.int i64 c,.isl 1 (bys v)]):=hx;have f3:0<=i/\i<((Z1 m).length:Int):=by simp;omega
 have f4:LV.irp (LV.agg [.int i64 c,.isl 1 (bys v)])=LV.irp (LV.agg [.int i64 a,.isl 1 (bys v)]):=by simp;omega
 have f5:LV.bool (if true=true then decide (a<=a) else false)=LV.bool true:=by simp
 have f6:1<=1:=by omega
 have f7:List.length (Z1 o)=List.length o/\(List.length o+1)*32<=140737488355328:=by simp;omega
 have f8:=zq8_3 o a b;have f9:=zq8_2 a b;have f10:(!decide (a=a))=false:=by simp
 have f11:LV.int i64 (IntKind.wrap i64 (i+1))=LV.int i64 (i+1):=by simp (disch:=omega)
 have f12:=hr;exact dlp (fun h=>ai (congrArg LV.bool f1)<|ai (f3)<|ai (f2)<|ai (f4)<|ai (f5)<|ai (f6)<|ai (f7)<|ai (congrArg some f8)<|ai (congrArg some f9)<|ai (f3)<|ai (f2)<|ai (f4)<|ai (congrArg LV.bool f10)<|ai (f11)<|ai (Eq.refl (Z9 f12))<|ai (f12)<|h) (.i (.s (.s (.a) (.b true (.a))) (.s (.k (.s (.s (.d [] [.a,.a,.a,.a,.a,.v (vOf f4) (.e (rOf f2)),.a,.a,.a,.a] [] [.a,.v (vOf f5) (.a)]) (.c (.s (.r [.a,.a,.a,.a,.a,.a,.a,.x 2 (vOf f9) (.x 3 (vOf f8) (.q))]) (.a)))) (.s (.d [] [.a,.a,.v (vOf f4) (.e (rOf f2)),.a,.a,.a,.a] [] []) (.b false (.a))))) (.r [.a,.v (vOf f11) (.a)]))) (.h [] (eOf f12) (Zp f12) (rOf f12))) (by kernel_rfl)
theorem pw_gtR(n fu:Nat)(m:ML)(hm:m.length<=100000)(o:ML)(ho:o.length<=100000)(ho2:0<o.length)(a:Int)(b:List Int)(i:Int)(h0:0<=i)(hi:i<(m.length:Int))(c:Int)(v:List Int)(hx:(Z1 m)[i.toNat]? = some (.agg [.int .i64 c,.isl 1 (bys v)]))(hc:a<c)(r:LX × LEnv × St)(hr:Z2 prog Ck (n+40) 59 0 0 fu (puE m (.sl 2 1 0 (o.length+1+1) none) true (i+1)) (puS a false (.isl 1 (bys b)) (o++[(a,b),(c,v)]))=some r):Z2 prog Ck (n+40) 59 0 0 (fu+1) (puE m (.sl 2 1 0 o.length none) false i) (puS a false (.isl 1 (bys b)) o)=some r:=by
 have f1:decide (i<((Z1 m).length:Int))=true:=by simp;omega
 have f2:(Z1 m)[i.toNat]? = some (LV.agg [.int i64 c,.isl 1 (bys v)]):=hx;have f3:0<=i/\i<((Z1 m).length:Int):=by simp;omega
 have f4:LV.bool (if true=true then decide (a<=c) else false)=LV.bool true:=by simp;omega
 have f5:1<=1:=by omega
 have f6:List.length (Z1 o)=List.length o/\(List.length o+1)*32<=140737488355328:=by simp;omega
 have f7:=zq8_3 o a b;have f8:=zq8_2 a b;have f9:(!decide (c=a))=true:=by simp;omega
 have f10:List.length (Z1 (o++[(a,b)]))=List.length o+1/\(List.length o+1+1)*32<=140737488355328:=by simp;omega
 have f11:LObj.row 126 2 (Z1 (o++[(a,b)])++List.take 1 (List.drop 0 (List.set [.agg [.int i64 0,.nils]] 0 (LV.agg [.int i64 c,.isl 1 (bys v)]))))=LObj.row 126 2 (Z1 (o++[(a,b),(c,v)])):=by simp
 have f12:=zq8_2 c v;have f13:LV.int i64 (IntKind.wrap i64 (i+1))=LV.int i64 (i+1):=by simp (disch:=omega)
 have f14:=hr;exact dlp (fun h=>ai (congrArg LV.bool f1)<|ai (f3)<|ai (f2)<|ai (f4)<|ai (f5)<|ai (f6)<|ai (congrArg some f7)<|ai (congrArg some f8)<|ai (f3)<|ai (f2)<|ai (congrArg LV.bool f9)<|ai (f3)<|ai (f2)<|ai (f5)<|ai (f10)<|ai (congrArg some f11)<|ai (congrArg some f12)<|ai (f13)<|ai (Eq.refl (Z9 f14))<|ai (f14)<|h) (.i (.s (.s (.a) (.b true (.a))) (.s (.k (.s (.s (.d [] [.a,.a,.a,.a,.a,.e (rOf f2),.a,.a,.a,.a] [] [.a,.v (vOf f4) (.a)]) (.c (.s (.r [.a,.a,.a,.a,.a,.a,.a,.x 2 (vOf f8) (.x 3 (vOf f7) (.q))]) (.a)))) (.s (.d [] [.a,.a,.e (rOf f2),.a,.a,.a,.a] [] []) (.b true (.r [.a,.a,.a,.e (rOf f2),.a,.a,.x 4 (vOf f12) (.x 5 (vOf f11) (.q))]))))) (.r [.a,.v (vOf f13) (.a)]))) (.h [] (eOf f14) (Zp f14) (rOf f14))) (by kernel_rfl)
theorem pw_endR(n fu:Nat)(m:ML)(hm:m.length<=100000)(o:ML)(ho:o.length<=100000)(ho2:0<o.length)(a:Int)(b:List Int)(i:Int)(hi:(m.length:Int)<=i):
  Z2 prog Ck (n+40) 59 0 0 (fu+1) (puE m (.sl 2 1 0 o.length none) false i) (puS a false (.isl 1 (bys b)) o)=some (.exit 0,puX m (.sl 2 1 0 o.length none) false i,(puS a false (.isl 1 (bys b)) o)):=by
 have f1:decide (i<((Z1 m).length:Int))=false:=by simp;omega
 exact dlp (fun h=>ai (congrArg LV.bool f1)<|h) (.i (.s (.s (.a) (.b false (.a))) .a) (.a)) (by kernel_rfl)
theorem pf_keepR(n fu:Nat)(m:ML)(hm:m.length<=100000)(o:ML)(ho:o.length<=100000)(ho2:0<o.length)(a:Int)(i:Int)(h0:0<=i)(hi:i<(m.length:Int))(c:Int)(v:List Int)(hx:(Z1 m)[i.toNat]? = some (.agg [.int .i64 c,.isl 1 (bys v)]))(hc:¬ c=a)(r:LX × LEnv × St)(hr:Z2 prog Ck (n+40) 59 0 0 fu (puE m (.sl 2 1 0 (o.length+1) none) true (i+1)) (puS a true .nils (o++[(c,v)]))=some r):Z2 prog Ck (n+40) 59 0 0 (fu+1) (puE m (.sl 2 1 0 o.length none) true i) (puS a true .nils o)=some r:=by
 have f1:decide (i<((Z1 m).length:Int))=true:=by simp;omega
 have f2:(Z1 m)[i.toNat]? = some (LV.agg [.int i64 c,.isl 1 (bys v)]):=hx;have f3:0<=i/\i<((Z1 m).length:Int):=by simp;omega
 have f4:(!decide (c=a))=true:=by simp;omega
 have f5:1<=1:=by omega
 have f6:List.length (Z1 o)=List.length o/\(List.length o+1)*32<=140737488355328:=by simp;omega
 have f7:=zq8_3 o c v;have f8:=zq8_2 c v;have f9:LV.int i64 (IntKind.wrap i64 (i+1))=LV.int i64 (i+1):=by simp (disch:=omega)
 have f10:=hr;exact dlp (fun h=>ai (congrArg LV.bool f1)<|ai (f3)<|ai (f2)<|ai (congrArg LV.bool f4)<|ai (f3)<|ai (f2)<|ai (f5)<|ai (f6)<|ai (congrArg some f7)<|ai (congrArg some f8)<|ai (f9)<|ai (Eq.refl (Z9 f10))<|ai (f10)<|h) (.i (.s (.s (.a) (.b true (.a))) (.s (.k (.s (.a) (.s (.d [] [.a,.a,.e (rOf f2),.a,.a,.a,.a] [] []) (.b true (.r [.a,.a,.a,.e (rOf f2),.a,.a,.x 2 (vOf f8) (.x 3 (vOf f7) (.q))]))))) (.r [.a,.v (vOf f9) (.a)]))) (.h [] (eOf f10) (Zp f10) (rOf f10))) (by kernel_rfl)
theorem pf_eqR(n fu:Nat)(m:ML)(hm:m.length<=100000)(o:ML)(ho:o.length<=100000)(ho2:0<o.length)(a:Int)(i:Int)(h0:0<=i)(hi:i<(m.length:Int))(c:Int)(v:List Int)(hx:(Z1 m)[i.toNat]? = some (.agg [.int .i64 c,.isl 1 (bys v)]))(hc:c=a)(r:LX × LEnv × St)(hr:Z2 prog Ck (n+40) 59 0 0 fu (puE m (.sl 2 1 0 o.length none) true (i+1)) (puS a true .nils o)=some r):Z2 prog Ck (n+40) 59 0 0 (fu+1) (puE m (.sl 2 1 0 o.length none) true i) (puS a true .nils o)=some r:=by
 have f1:decide (i<((Z1 m).length:Int))=true:=by simp;omega
 have f2:(Z1 m)[i.toNat]? = some (LV.agg [.int i64 c,.isl 1 (bys v)]):=hx;have f3:0<=i/\i<((Z1 m).length:Int):=by simp;omega
 have f4:LV.irp (LV.agg [.int i64 c,.isl 1 (bys v)])=LV.irp (LV.agg [.int i64 a,.isl 1 (bys v)]):=by simp;omega
 have f5:(!decide (a=a))=false:=by simp
 have f6:LV.int i64 (IntKind.wrap i64 (i+1))=LV.int i64 (i+1):=by simp (disch:=omega)
 have f7:=hr;exact dlp (fun h=>ai (congrArg LV.bool f1)<|ai (f3)<|ai (f2)<|ai (f4)<|ai (congrArg LV.bool f5)<|ai (f6)<|ai (Eq.refl (Z9 f7))<|ai (f7)<|h) (.i (.s (.s (.a) (.b true (.a))) (.s (.k (.s (.a) (.s (.d [] [.a,.a,.v (vOf f4) (.e (rOf f2)),.a,.a,.a,.a] [] []) (.b false (.a))))) (.r [.a,.v (vOf f6) (.a)]))) (.h [] (eOf f7) (Zp f7) (rOf f7))) (by kernel_rfl)
theorem pf_endR(n fu:Nat)(m:ML)(hm:m.length<=100000)(o:ML)(ho:o.length<=100000)(ho2:0<o.length)(a:Int)(i:Int)(hi:(m.length:Int)<=i):
  Z2 prog Ck (n+40) 59 0 0 (fu+1) (puE m (.sl 2 1 0 o.length none) true i) (puS a true .nils o)=some (.exit 0,puX m (.sl 2 1 0 o.length none) true i,(puS a true .nils o)):=by
 have f1:decide (i<((Z1 m).length:Int))=false:=by simp;omega
 exact dlp (fun h=>ai (congrArg LV.bool f1)<|h) (.i (.s (.s (.a) (.b false (.a))) .a) (.a)) (by kernel_rfl)
theorem pw_rest(n fu:Nat)(m:ML)(hm:m.length<=100000)(o:ML)(ho:o.length<=100000)(ho2:0<o.length)(a:Int)(b:List Int)(i:Int)(h0:0<=i)(hi:i<(m.length:Int))(c:Int)(v:List Int)(hx:(Z1 m)[i.toNat]? = some (.agg [.int .i64 c,.isl 1 (bys v)]))(hc:¬ c=a)(r:LX × LEnv × St)(hr:Z2 prog Ck (n+40) 59 0 0 fu (puE m (.sl 2 1 0 (o.length+1) none) true (i+1)) (puS a false (.isl 1 (bys b)) (o++[(c,v)]))=some r):Z2 prog Ck (n+40) 59 0 0 (fu+1) (puE m (.sl 2 1 0 o.length none) true i) (puS a false (.isl 1 (bys b)) o)=some r:=by
 have f1:decide (i<((Z1 m).length:Int))=true:=by simp;omega
 have f2:(Z1 m)[i.toNat]? = some (LV.agg [.int i64 c,.isl 1 (bys v)]):=hx;have f3:0<=i/\i<((Z1 m).length:Int):=by simp;omega
 have f4:(!decide (c=a))=true:=by simp;omega
 have f5:1<=1:=by omega
 have f6:List.length (Z1 o)=List.length o/\(List.length o+1)*32<=140737488355328:=by simp;omega
 have f7:=zq8_3 o c v;have f8:=zq8_2 c v;have f9:LV.int i64 (IntKind.wrap i64 (i+1))=LV.int i64 (i+1):=by simp (disch:=omega)
 have f10:=hr;exact dlp (fun h=>ai (congrArg LV.bool f1)<|ai (f3)<|ai (f2)<|ai (congrArg LV.bool f4)<|ai (f3)<|ai (f2)<|ai (f5)<|ai (f6)<|ai (congrArg some f7)<|ai (congrArg some f8)<|ai (f9)<|ai (Eq.refl (Z9 f10))<|ai (f10)<|h) (.i (.s (.s (.a) (.b true (.a))) (.s (.k (.s (.a) (.s (.d [] [.a,.a,.e (rOf f2),.a,.a,.a,.a] [] []) (.b true (.r [.a,.a,.a,.e (rOf f2),.a,.a,.x 2 (vOf f8) (.x 3 (vOf f7) (.q))]))))) (.r [.a,.v (vOf f9) (.a)]))) (.h [] (eOf f10) (Zp f10) (rOf f10))) (by kernel_rfl)
theorem pw_endT(n fu:Nat)(m:ML)(hm:m.length<=100000)(o:ML)(ho:o.length<=100000)(ho2:0<o.length)(a:Int)(b:List Int)(i:Int)(hi:(m.length:Int)<=i):
  Z2 prog Ck (n+40) 59 0 0 (fu+1) (puE m (.sl 2 1 0 o.length none) true i) (puS a false (.isl 1 (bys b)) o)=some (.exit 0,puX m (.sl 2 1 0 o.length none) true i,(puS a false (.isl 1 (bys b)) o)):=by
 have f1:decide (i<((Z1 m).length:Int))=false:=by simp;omega
 exact dlp (fun h=>ai (congrArg LV.bool f1)<|h) (.i (.s (.s (.a) (.b false (.a))) .a) (.a)) (by kernel_rfl)
theorem pw_thruN(n:Nat)(m:ML)(hm:m.length<=100000)(a:Int)(b:List Int)(L:Z2 prog Ck (n+40) 59 0 0 (n+40) (puE m .nils false 0) (puN a false (.isl 1 (bys b)))=some (.exit 0,puX m .nils false m.length,(puN a false (.isl 1 (bys b))))):
  Z6 prog Ck (Z3 prog Ck (n+40)) (n+40) 59 [.isl 2 (Z1 m),.agg [.int .i64 a,.bool false,(.isl 1 (bys b))]] ⟨0,[]⟩=some (.isl 2 (Z1 [(a,b)]),⟨0,[]⟩):=by
 have f1:=L
 exact drn (fun h=>ai (Eq.refl (Z9 f1))<|ai (f1)<|h) (.s (.a) (.s (.a) (.s (.a) (.s (.s (.a) (.k (.l (.h [] (eOf f1) (Zp f1) (rOf f1))))) (.a))))) [] .a (by kernel_rfl)
theorem pw_thruR(n:Nat)(m:ML)(hm:m.length<=100000)(o:ML)(ho:o.length<=100000)(ho2:0<o.length)(a:Int)(b:List Int)(L:Z2 prog Ck (n+40) 59 0 0 (n+40) (puE m .nils false 0) (puN a false (.isl 1 (bys b)))=some (.exit 0,puX m (.sl 2 1 0 o.length none) false m.length,(puS a false (.isl 1 (bys b)) o))):
  Z6 prog Ck (Z3 prog Ck (n+40)) (n+40) 59 [.isl 2 (Z1 m),.agg [.int .i64 a,.bool false,(.isl 1 (bys b))]] ⟨0,[]⟩=some (.isl 2 (Z1 (o++[(a,b)])),⟨0,[]⟩):=by
 have hT:List.take (o.length+1) (Z1 (o++[(a,b)]))=Z1 (o++[(a,b)]):=List.take_of_length_le (by simp)
 have f1:=L
 have f2:1<=1:=by omega
 have f3:List.length (Z1 o)=List.length o/\(List.length o+1)*32<=140737488355328:=by simp;omega
 have f4:=zq8_3 o a b;have f5:=zq8_2 a b;have f6:(if 3=3 then if 2=2/\0+(List.length o+1)<=List.length (Z1 (o++[(a,b)]))/\X1 (List.length o+1) none=true then LV.isl 2 (List.take (List.length o+1) (List.drop 0 (Z1 (o++[(a,b)])))) else LV.any else LV.sl 2 3 0 (List.length o+1) none)=LV.isl 2 (Z1 (o++[(a,b)])):=by simp;omega
 exact drn (fun h=>ai (Eq.refl (Z9 f1))<|ai (f1)<|ai (f2)<|ai (f3)<|ai (congrArg some f4)<|ai (congrArg some f5)<|ai (f6)<|h) (.s (.a) (.s (.a) (.s (.a) (.s (.s (.a) (.k (.l (.h [] (eOf f1) (Zp f1) (rOf f1))))) (.s (.s (.a) (.c (.r [.a,.a,.a,.a,.a,.a,.a,.x 2 (vOf f5) (.x 3 (vOf f4) (.q))]))) (.a)))))) [.y 0 (vOf f6)] .a (by kernel_rfl)
theorem pw_thruT(n:Nat)(m:ML)(hm:m.length<=100000)(o:ML)(ho:o.length<=100000)(ho2:0<o.length)(a:Int)(b:List Int)(L:Z2 prog Ck (n+40) 59 0 0 (n+40) (puE m .nils false 0) (puN a false (.isl 1 (bys b)))=some (.exit 0,puX m (.sl 2 1 0 o.length none) true m.length,(puS a false (.isl 1 (bys b)) o))):
  Z6 prog Ck (Z3 prog Ck (n+40)) (n+40) 59 [.isl 2 (Z1 m),.agg [.int .i64 a,.bool false,(.isl 1 (bys b))]] ⟨0,[]⟩=some (.isl 2 (Z1 o),⟨0,[]⟩):=by
 have hT:List.take o.length (Z1 o)=Z1 o:=List.take_of_length_le (by simp)
 have f1:=L
 have f2:(if 1=1 then if 2=2/\0+List.length o<=List.length (Z1 o)/\X1 (List.length o) none=true then LV.isl 2 (List.take (List.length o) (List.drop 0 (Z1 o))) else LV.any else LV.sl 2 1 0 (List.length o) none)=LV.isl 2 (Z1 o):=by simp;omega
 exact drn (fun h=>ai (Eq.refl (Z9 f1))<|ai (f1)<|ai (f2)<|h) (.s (.a) (.s (.a) (.s (.a) (.s (.s (.a) (.k (.l (.h [] (eOf f1) (Zp f1) (rOf f1))))) (.a))))) [.y 0 (vOf f2)] .a (by kernel_rfl)
theorem pf_thruN(n:Nat)(m:ML)(hm:m.length<=100000)(a:Int)(L:Z2 prog Ck (n+40) 59 0 0 (n+40) (puE m .nils true 0) (puN a true .nils)=some (.exit 0,puX m .nils true m.length,(puN a true .nils))):
  Z6 prog Ck (Z3 prog Ck (n+40)) (n+40) 59 [.isl 2 (Z1 m),.agg [.int .i64 a,.bool true,.nils]] ⟨0,[]⟩=some (.isl 2 [],⟨0,[]⟩):=by
 have f1:=L
 exact drn (fun h=>ai (Eq.refl (Z9 f1))<|ai (f1)<|h) (.s (.a) (.s (.a) (.s (.a) (.s (.s (.a) (.k (.l (.h [] (eOf f1) (Zp f1) (rOf f1))))) (.a))))) [] .a (by kernel_rfl)
theorem pf_thruR(n:Nat)(m:ML)(hm:m.length<=100000)(o:ML)(ho:o.length<=100000)(ho2:0<o.length)(a:Int)(L:Z2 prog Ck (n+40) 59 0 0 (n+40) (puE m .nils true 0) (puN a true .nils)=some (.exit 0,puX m (.sl 2 1 0 o.length none) true m.length,(puS a true .nils o))):
  Z6 prog Ck (Z3 prog Ck (n+40)) (n+40) 59 [.isl 2 (Z1 m),.agg [.int .i64 a,.bool true,.nils]] ⟨0,[]⟩=some (.isl 2 (Z1 o),⟨0,[]⟩):=by
 have hT:List.take o.length (Z1 o)=Z1 o:=List.take_of_length_le (by simp)
 have f1:=L
 have f2:(if 1=1 then if 2=2/\0+List.length o<=List.length (Z1 o)/\X1 (List.length o) none=true then LV.isl 2 (List.take (List.length o) (List.drop 0 (Z1 o))) else LV.any else LV.sl 2 1 0 (List.length o) none)=LV.isl 2 (Z1 o):=by simp;omega
 exact drn (fun h=>ai (Eq.refl (Z9 f1))<|ai (f1)<|ai (f2)<|h) (.s (.a) (.s (.a) (.s (.a) (.s (.s (.a) (.k (.l (.h [] (eOf f1) (Zp f1) (rOf f1))))) (.a))))) [.y 0 (vOf f2)] .a (by kernel_rfl)
abbrev rS(rm:Int)(m:ML)(p:PL):St:=⟨1,[(0,LObj.box 36 [.int i64 rm,.isl 2 (Z1 m),.isl 3 (Z5 p)])]⟩
abbrev taE(a i:Int):LEnv:=[.any,.int i64 a,.ptr 0 0,.any,.any,.any,.any,.int i64 i,.any,.any,.any,.any,.any,.any,.any,.any,.any,.any,.any,.any,.any,.any,.any,.any,.any,.any,.any,.any,.any,.any,.any,.any,.any,.any,.any,.any,.any,.any,.any,.any]
abbrev taH(rm:Int)(m:ML)(p:PL)(a i:Int)(w:LV):LEnv:=[.any,.int i64 a,.ptr 0 0,.any,.bool true,.any,.any,.int i64 i,.any,.any,.any,.any,.any,.any,.any,.any,.int i64 i,.ptr 0 2,.isl 3 (Z5 p),.int i64 ((Z5 p).length:Int),.bool (decide (i<((Z5 p).length:Int))),.any,.any,.ptr 0 2,.isl 3 (Z5 p),.int i64 i,(LV.agg [.int i64 a,.bool false,w]).irp,(LV.int i64 a).irp,.int i64 a,.int i64 a,.bool (decide (a=a)),.bool (decide (a=a)),.ptr 0 2,.isl 3 (Z5 p),.int i64 i,(LV.agg [.int i64 a,.bool false,w]).irp,(LV.bool false).irp,.bool false,.bool true,.bool true]
abbrev taX(rm:Int)(m:ML)(p:PL)(a i:Int):LEnv:=[.any,.int i64 a,.ptr 0 0,.any,.any,.any,.any,.int i64 i,.any,.any,.any,.any,.any,.any,.any,.any,.int i64 i,.ptr 0 2,.isl 3 (Z5 p),.int i64 ((Z5 p).length:Int),.bool (decide (i<((Z5 p).length:Int))),.any,.any,.any,.any,.any,.any,.any,.any,.any,.any,.any,.any,.any,.any,.any,.any,.any,.any,.any]
theorem ta_step1(n fu:Nat)(rm:Int)(m:ML)(p:PL)(hp:p.length<=1000)(a i:Int)(h0:0<=i)(hi:i<(p.length:Int))(c:Int)(v:Bool)(w:LV)(hx:(Z5 p)[i.toNat]? = some (.agg [.int .i64 c,.bool v,w]))(hne:¬ c=a)(r:LX × LEnv × St)(hr:Z2 prog C0 (n+20) 66 0 0 fu (taE a (i+1)) (rS rm m p)=some r):Z2 prog C0 (n+20) 66 0 0 (fu+1) (taE a i) (rS rm m p)=some r:=by
 have f1:decide (i<((Z5 p).length:Int))=true:=by simp;omega
 have f2:(Z5 p)[i.toNat]? = some (LV.agg [.int i64 c,.bool v,w]):=hx;have f3:0<=i/\i<((Z5 p).length:Int):=by simp;omega
 have f4:decide (c=a)=false:=by simp;omega
 have f5:Xf (decide (c=a)) LV.any (LV.bool false)=some (LV.bool false):=by simp;omega
 have f6:LV.int i64 (IntKind.wrap i64 (i+1))=LV.int i64 (i+1):=by simp (disch:=omega)
 have f7:=hr;exact dlp (fun h=>ai (congrArg LV.bool f1)<|ai (f3)<|ai (f2)<|ai (congrArg some f4)<|ai (congrArg some f4)<|ai (congrArg some f4)<|ai (congrArg some f4)<|ai (congrArg some f4)<|ai (congrArg some f4)<|ai (congrArg some f4)<|ai (Y3 (st:=(St.mk 1 [(0,LObj.box 36 [.int i64 rm,.isl 2 (Z1 m),.isl 3 (Z5 p)])])) f5)<|ai (f6)<|ai (Eq.refl (Z9 f7))<|ai (f7)<|h) (.i (.s (.s (.a) (.b true (.a))) (.s (.k (.s (.r [.a,.a,.a,.e (rOf f2),.a,.a,.a,.a,.a,.g false (.a),.g false (.a),.g false (.a),.g false (.a),.g false (.a),.g false (.a),.g false (.a),.t (rOf (Y3 (st:=(St.mk 1 [(0,LObj.box 36 [.int i64 rm,.isl 2 (Z1 m),.isl 3 (Z5 p)])])) f5))]) (.a))) (.r [.a,.v (vOf f6) (.a)]))) (.h [] (eOf f7) (Zp f7) (rOf f7))) (by kernel_rfl)
theorem ta_step2(n fu:Nat)(rm:Int)(m:ML)(p:PL)(hp:p.length<=1000)(a i:Int)(h0:0<=i)(hi:i<(p.length:Int))(w:LV)(hx:(Z5 p)[i.toNat]? = some (.agg [.int .i64 a,.bool true,w]))(r:LX × LEnv × St)(hr:Z2 prog C0 (n+20) 66 0 0 fu (taE a (i+1)) (rS rm m p)=some r):Z2 prog C0 (n+20) 66 0 0 (fu+1) (taE a i) (rS rm m p)=some r:=by
 have f1:decide (i<((Z5 p).length:Int))=true:=by simp;omega
 have f2:(Z5 p)[i.toNat]? = some (LV.agg [.int i64 a,.bool true,w]):=hx;have f3:0<=i/\i<((Z5 p).length:Int):=by simp;omega
 have f4:decide (a=a)=true:=by simp
 have f5:LV.bool (if decide (a=a)=true then false else false)=LV.bool false:=by simp
 have f6:LV.int i64 (IntKind.wrap i64 (i+1))=LV.int i64 (i+1):=by simp (disch:=omega)
 have f7:=hr;exact dlp (fun h=>ai (congrArg LV.bool f1)<|ai (f3)<|ai (f2)<|ai (congrArg some f4)<|ai (congrArg some f4)<|ai (congrArg some f4)<|ai (congrArg some f4)<|ai (f3)<|ai (f2)<|ai (congrArg some f4)<|ai (congrArg some f4)<|ai (congrArg some f4)<|ai (f5)<|ai (f6)<|ai (Eq.refl (Z9 f7))<|ai (f7)<|h) (.i (.s (.s (.a) (.b true (.a))) (.s (.k (.s (.r [.a,.a,.a,.e (rOf f2),.a,.a,.a,.a,.a,.g true (.a),.g true (.a),.g true (.a),.g true (.e (rOf f2)),.g true (.a),.g true (.a),.g true (.a),.v (vOf f5) (.a)]) (.a))) (.r [.a,.v (vOf f6) (.a)]))) (.h [] (eOf f7) (Zp f7) (rOf f7))) (by kernel_rfl)
theorem ta_hit(n fu:Nat)(rm:Int)(m:ML)(p:PL)(hp:p.length<=1000)(a i:Int)(h0:0<=i)(hi:i<(p.length:Int))(w:LV)(hx:(Z5 p)[i.toNat]? = some (.agg [.int .i64 a,.bool false,w])):
  Z2 prog C0 (n+20) 66 0 0 (fu+1) (taE a i) (rS rm m p)=some (.ret,taH rm m p a i w,rS rm m p):=by
 have f1:decide (i<((Z5 p).length:Int))=true:=by simp;omega
 have f2:(Z5 p)[i.toNat]? = some (LV.agg [.int i64 a,.bool false,w]):=hx;have f3:0<=i/\i<((Z5 p).length:Int):=by simp;omega
 have f4:decide (a=a)=true:=by simp
 have f5:LV.bool (if decide (a=a)=true then true else false)=LV.bool true:=by simp
 exact dlp (fun h=>ai (congrArg LV.bool f1)<|ai (f3)<|ai (f2)<|ai (congrArg some f4)<|ai (congrArg some f4)<|ai (congrArg some f4)<|ai (congrArg some f4)<|ai (f3)<|ai (f2)<|ai (congrArg some f4)<|ai (congrArg some f4)<|ai (congrArg some f4)<|ai (f5)<|h) (.i (.s (.s (.a) (.b true (.a))) (.s (.k (.s (.r [.a,.a,.a,.e (rOf f2),.a,.a,.a,.a,.a,.g true (.a),.g true (.a),.g true (.a),.g true (.e (rOf f2)),.g true (.a),.g true (.a),.g true (.a),.v (vOf f5) (.a)]) (.a))) .a)) (.a)) (by kernel_rfl)
theorem ta_end(n fu:Nat)(rm:Int)(m:ML)(p:PL)(hp:p.length<=1000)(a i:Int)(hi:(p.length:Int)<=i):
  Z2 prog C0 (n+20) 66 0 0 (fu+1) (taE a i) (rS rm m p)=some (.exit 0,taX rm m p a i,rS rm m p):=by
 have f1:decide (i<((Z5 p).length:Int))=false:=by simp;omega
 exact dlp (fun h=>ai (congrArg LV.bool f1)<|h) (.i (.s (.s (.a) (.b false (.a))) .a) (.a)) (by kernel_rfl)
abbrev rS2(rm:Int)(m:ML)(p:PL):St:=⟨1,[(0,LObj.box 36 [.int i64 rm,.isl 2 (Z1 m),.isl 3 (Z5 p)])]⟩
abbrev reE(a i:Int):LEnv:=[.any,.int i64 a,.ptr 0 0,.any,.any,.any,.int i64 i,.any,.any,.any,.any,.any,.any,.any,.any,.any,.any,.any,.any,.any,.any,.any,.any,.any,.any,.any,.any,.any,.any,.any,.any,.any,.any,.any,.any,.any,.any,.any,.any,.any,.any,.any,.any,.any]
abbrev reH(p:PL)(a i:Int)(b:List Int)(v:Bool):LEnv:=[.any,.int i64 a,.ptr 0 0,.any,.isl 1 (bys (blk b)),.int i64 0,.int i64 i,.any,.any,.any,.any,.any,.any,.any,.any,.any,.int i64 i,.bool (decide (0<=i)),.any,.any,.ptr 0 2,.isl 3 (Z5 p),.int i64 i,(LV.agg [.int i64 a,.bool v,.isl 1 (bys b)]).irp,(LV.int i64 a).irp,.int i64 a,.int i64 a,.bool (decide (a=a)),.ptr 0 2,.isl 3 (Z5 p),.int i64 i,(LV.agg [.int i64 a,.bool v,.isl 1 (bys b)]).irp,(LV.isl 1 (bys b)).irp,.isl 1 (bys b),.isl 1 (bys (blk b)),.any,.any,.any,.any,.any,.any,.any,.any,.any]
abbrev reN(p:PL)(a i:Int)(v:Bool):LEnv:=[.any,.int i64 a,.ptr 0 0,.any,.isl 1 (List.take 64 (List.drop 0 (List.replicate 64 (LV.int IntKind.u8 0)))),.int i64 0,.int i64 i,.any,.any,.any,.any,.any,.any,.any,.any,.any,.int i64 i,.bool (decide (0<=i)),.any,.any,.ptr 0 2,.isl 3 (Z5 p),.int i64 i,(LV.agg [.int i64 a,.bool v,.nils]).irp,(LV.int i64 a).irp,.int i64 a,.int i64 a,.bool (decide (a=a)),.ptr 0 2,.isl 3 (Z5 p),.int i64 i,(LV.agg [.int i64 a,.bool v,.nils]).irp,LV.nils.irp,.nils,.isl 1 (List.take 64 (List.drop 0 (List.replicate 64 (LV.int IntKind.u8 0)))),.any,.any,.any,.any,.any,.any,.any,.any,.any]
abbrev reX(a:Int):LEnv:=[.any,.int i64 a,.ptr 0 0,.any,.any,.any,.int i64 (-1),.any,.any,.any,.any,.any,.any,.any,.any,.any,.int i64 (-1),.bool false,.any,.any,.any,.any,.any,.any,.any,.any,.any,.any,.any,.any,.any,.any,.any,.any,.any,.any,.any,.any,.any,.any,.any,.any,.any,.any]
theorem re_step(n fu:Nat)(rm:Int)(m:ML)(p:PL)(hp:p.length<=1000)(a i:Int)(h0:0<=i)(hi:i<(p.length:Int))(c:Int)(v:Bool)(w:LV)(hx:(Z5 p)[i.toNat]? = some (.agg [.int .i64 c,.bool v,w]))(hne:¬ c=a)(r:LX × LEnv × St)(hr:Z2 prog C0 (n+40) 50 0 0 fu (reE a (i-1)) (rS2 rm m p)=some r):Z2 prog C0 (n+40) 50 0 0 (fu+1) (reE a i) (rS2 rm m p)=some r:=by
 have f1:decide (0<=i)=true:=by simp;omega
 have f2:(Z5 p)[i.toNat]? = some (LV.agg [.int i64 c,.bool v,w]):=hx;have f3:0<=i/\i<((Z5 p).length:Int):=by simp;omega
 have f4:decide (c=a)=false:=by simp;omega
 have f5:LV.int i64 (IntKind.wrap i64 (i-1))=LV.int i64 (i-1):=by simp (disch:=omega)
 have f6:=hr;exact dlp (fun h=>ai (congrArg LV.bool f1)<|ai (f3)<|ai (f2)<|ai (congrArg LV.bool f4)<|ai (f5)<|ai (Eq.refl (Z9 f6))<|ai (f6)<|h) (.i (.s (.s (.a) (.b true (.a))) (.s (.k (.s (.r [.a,.a,.a,.e (rOf f2)]) (.b false (.a)))) (.r [.a,.v (vOf f5) (.a)]))) (.h [] (eOf f6) (Zp f6) (rOf f6))) (by kernel_rfl)
theorem re_hitS(n fu:Nat)(rm:Int)(m:ML)(p:PL)(hp:p.length<=1000)(a i:Int)(h0:0<=i)(hi:i<(p.length:Int))(b:List Int)(hb:b.length<=64)(v:Bool)(hx:(Z5 p)[i.toNat]? = some (.agg [.int .i64 a,.bool v,.isl 1 (bys b)]))(hn:100<n):
  Z2 prog C0 (n+40) 50 0 0 (fu+1) (reE a i) (rS2 rm m p)=some (.ret,reH p a i b v,rS2 rm m p):=by
 have f1:decide (0<=i)=true:=by simp;omega
 have f2:(Z5 p)[i.toNat]? = some (LV.agg [.int i64 a,.bool v,.isl 1 (bys b)]):=hx;have f3:0<=i/\i<((Z5 p).length:Int):=by simp;omega
 have f4:decide (a=a)=true:=by simp
 have f5:=pad_ok (n+19) b hb (by omega)
 exact dlp (fun h=>ai (congrArg LV.bool f1)<|ai (f3)<|ai (f2)<|ai (congrArg LV.bool f4)<|ai (f3)<|ai (f2)<|ai (f5)<|h) (.i (.s (.s (.a) (.b true (.a))) (.s (.k (.s (.r [.a,.a,.a,.e (rOf f2)]) (.b true (.s (.r [.a,.a,.a,.e (rOf f2),.a,.a,.f (rOf f5)]) (.a))))) .a)) (.a)) (by kernel_rfl)
theorem re_hitN(n fu:Nat)(rm:Int)(m:ML)(p:PL)(hp:p.length<=1000)(a i:Int)(h0:0<=i)(hi:i<(p.length:Int))(v:Bool)(hx:(Z5 p)[i.toNat]? = some (.agg [.int .i64 a,.bool v,.nils]))(hn:100<n):
  Z2 prog C0 (n+40) 50 0 0 (fu+1) (reE a i) (rS2 rm m p)=some (.ret,reN p a i v,rS2 rm m p):=by
 have f1:decide (0<=i)=true:=by simp;omega
 have f2:(Z5 p)[i.toNat]? = some (LV.agg [.int i64 a,.bool v,.nils]):=hx;have f3:0<=i/\i<((Z5 p).length:Int):=by simp;omega
 have f4:decide (a=a)=true:=by simp
 exact dlp (fun h=>ai (congrArg LV.bool f1)<|ai (f3)<|ai (f2)<|ai (congrArg LV.bool f4)<|ai (f3)<|ai (f2)<|h) (.i (.s (.s (.a) (.b true (.a))) (.s (.k (.s (.r [.a,.a,.a,.e (rOf f2)]) (.b true (.s (.r [.a,.a,.a,.e (rOf f2)]) (.a))))) .a)) (.a)) (by kernel_rfl)
theorem re_end(n fu:Nat)(rm:Int)(m:ML)(p:PL)(hp:p.length<=1000)(a:Int):
  Z2 prog C0 (n+40) 50 0 0 (fu+1) (reE a (-1)) (rS2 rm m p)=some (.exit 0,reX a,rS2 rm m p):=by
 exact dlp (fun h=>h) (.a) (by kernel_rfl)
abbrev ceE2(m k:ML)(i:Int):LEnv:=[.isl 2 (Z1 m),.isl 2 (Z1 k),.any,.any,.any,.int i64 i,.any,.any,.any,.any,.any,.any,.any,.any,.any,.any,.any,.any,.any,.any,.any,.any,.any,.any,.any,.any,.any,.any,.any,.any,.any,.any,.any,.any,.any,.any,.any,.any,.any,.any,.any,.any]
abbrev ceX2(m k:ML)(i:Int):LEnv:=[.isl 2 (Z1 m),.isl 2 (Z1 k),.any,.any,.any,.int i64 i,.any,.any,.any,.any,.any,.int i64 i,.isl 2 (Z1 m),.int i64 ((Z1 m).length:Int),.bool (decide (i<((Z1 m).length:Int))),.any,.any,.any,.any,.any,.any,.any,.any,.any,.any,.any,.any,.any,.any,.any,.any,.any,.any,.any,.any,.any,.any,.any,.any,.any,.any,.any]
theorem ce_step(n fu:Nat)(m k:ML)(hm:m.length<=1000000)(hk:k.length=m.length)(i:Int)(h0:0<=i)(hi:i<(m.length:Int))(a:Int)(b:List Int)(hx:(Z1 m)[i.toNat]? = some (.agg [.int .i64 a,.isl 1 (bys b)]))(hy:(Z1 k)[i.toNat]? = some (.agg [.int .i64 a,.isl 1 (bys b)]))(hn:100<n)(S:∀ j,100<j+20->Z6 prog C0 (Z3 prog C0 (j+20)) (j+20) 19 [.isl 1 (bys b),.isl 1 (bys b)] ⟨0,[]⟩=some (.bool true,⟨0,[]⟩))(r:LX × LEnv × St)(hr:Z2 prog C0 (n+40) 21 0 0 fu (ceE2 m k (i+1)) ⟨0,[]⟩=some r):Z2 prog C0 (n+40) 21 0 0 (fu+1) (ceE2 m k i) ⟨0,[]⟩=some r:=by
 have f1:decide (i<((Z1 m).length:Int))=true:=by simp;omega
 have f2:(Z1 m)[i.toNat]? = some (LV.agg [.int i64 a,.isl 1 (bys b)]):=hx;have f3:0<=i/\i<((Z1 m).length:Int):=by simp;omega
 have f4:(Z1 k)[i.toNat]? = some (LV.agg [.int i64 a,.isl 1 (bys b)]):=hy;have f5:0<=i/\i<((Z1 k).length:Int):=by simp;omega
 have f6:(!decide (a=a))=false:=by simp
 have f7:=S (n+19) (by omega)
 have f8:LV.bool (if (!decide (a=a))=true then true else false)=LV.bool false:=by simp
 have f9:LV.int i64 (IntKind.wrap i64 (i+1))=LV.int i64 (i+1):=by simp (disch:=omega)
 have f10:=hr;exact dlp (fun h=>ai (congrArg LV.bool f1)<|ai (f3)<|ai (f2)<|ai (f5)<|ai (f4)<|ai (congrArg some f6)<|ai (congrArg some f6)<|ai (congrArg some f6)<|ai (f3)<|ai (f2)<|ai (congrArg some f6)<|ai (congrArg some f6)<|ai (congrArg some f6)<|ai (congrArg some f6)<|ai (congrArg some f6)<|ai (f5)<|ai (f4)<|ai (congrArg some f6)<|ai (congrArg some f6)<|ai (congrArg some f6)<|ai (f7)<|ai (congrArg some f6)<|ai (f8)<|ai (f9)<|ai (Eq.refl (Z9 f10))<|ai (f10)<|h) (.i (.s (.s (.a) (.b true (.a))) (.s (.k (.s (.d [] [.a,.a,.e (rOf f2),.a,.a,.a,.a,.e (rOf f4),.a,.a,.a,.a,.g false (.a),.g false (.a),.g false (.e (rOf f2)),.g false (.a),.g false (.a),.g false (.a),.g false (.a),.g false (.e (rOf f4)),.g false (.a),.g false (.a)] [] [.g false (.f (rOf f7)),.g false (.a),.v (vOf f8) (.a)]) (.a))) (.r [.a,.v (vOf f9) (.a)]))) (.h [] (eOf f10) (Zp f10) (rOf f10))) (by kernel_rfl)
theorem ce_end(n fu:Nat)(m k:ML)(hm:m.length<=1000000)(hk:k.length=m.length)(i:Int)(hi:(m.length:Int)<=i):
  Z2 prog C0 (n+40) 21 0 0 (fu+1) (ceE2 m k i) ⟨0,[]⟩=some (.exit 0,ceX2 m k i,⟨0,[]⟩):=by
 have f1:decide (i<((Z1 m).length:Int))=false:=by simp;omega
 exact dlp (fun h=>ai (congrArg LV.bool f1)<|h) (.i (.s (.s (.a) (.b false (.a))) .a) (.a)) (by kernel_rfl)
abbrev usE(u i:Int):LEnv:=[.any,.ptr 0 0,.any,.int i64 u,.int i64 i,.any,.any,.any,.any,.any,.any,.any,.any,.any,.any,.any,.any,.any,.any,.any,.any,.any,.any,.any,.any,.any,.any,.any,.any,.any,.any,.any,.any,.any,.any,.any,.any,.any,.any,.any,.any,.any,.any,.any,.any,.any,.any,.any,.any,.any,.any,.any,.any,.any,.any,.any,.any,.any,.any,.any,.any,.any,.any,.any,.any]
theorem us_free(n fu:Nat)(rm:Int)(m:ML)(p:PL)(hp:p.length<=1000)(hm:m.length<=1000000)(u i:Int)(h0:0<=i)(hi:i<(p.length:Int))(a:Int)(w:List Int)(e:Bool)(hx:(Z5 p)[i.toNat]? = some (.agg [.int .i64 a,.bool true,.nils]))(Fd:∀ j,100<j+20->Z6 prog C0 (Z3 prog C0 (j+20)) (j+20) 57 [.isl 2 (Z1 m),.int .i64 a] ⟨0,[]⟩=some (.tup [.isl 1 (bys w),.bool e],⟨0,[]⟩))(hn:100<n)(r:LX × LEnv × St)(hr:Z2 prog C0 (n+40) 67 0 0 fu (usE u (i+1)) (rS rm m p)=some r):Z2 prog C0 (n+40) 67 0 0 (fu+1) (usE u i) (rS rm m p)=some r:=by
 have f1:decide (i<((Z5 p).length:Int))=true:=by simp;omega
 have f2:(Z5 p)[i.toNat]? = some (LV.agg [.int i64 a,.bool true,.nils]):=hx;have f3:0<=i/\i<((Z5 p).length:Int):=by simp;omega
 have f4:=Fd (n+19) (by omega)
 have f5:LV.int i64 (IntKind.wrap i64 (i+1))=LV.int i64 (i+1):=by simp (disch:=omega)
 have f6:=hr;exact dlp (fun h=>ai (congrArg LV.bool f1)<|ai (f3)<|ai (f2)<|ai (f4)<|ai (f5)<|ai (Eq.refl (Z9 f6))<|ai (f6)<|h) (.i (.s (.s (.a) (.b true (.a))) (.s (.k (.s (.r [.a,.a,.a,.e (rOf f2)]) (.s (.r [.a,.a,.a,.a,.f (rOf f4)]) (.a)))) (.r [.a,.v (vOf f5) (.a)]))) (.h [] (eOf f6) (Zp f6) (rOf f6))) (by kernel_rfl)
theorem us_there(n fu:Nat)(rm:Int)(m:ML)(p:PL)(hp:p.length<=1000)(hm:m.length<=1000000)(u i:Int)(h0:0<=i)(hi:i<(p.length:Int))(a:Int)(b w:List Int)(hx:(Z5 p)[i.toNat]? = some (.agg [.int .i64 a,.bool false,.isl 1 (bys b)]))(Fd:∀ j,100<j+20->Z6 prog C0 (Z3 prog C0 (j+20)) (j+20) 57 [.isl 2 (Z1 m),.int .i64 a] ⟨0,[]⟩=some (.tup [.isl 1 (bys w),.bool true],⟨0,[]⟩))(hn:100<n)(r:LX × LEnv × St)(hr:Z2 prog C0 (n+40) 67 0 0 fu (usE u (i+1)) (rS rm m p)=some r):Z2 prog C0 (n+40) 67 0 0 (fu+1) (usE u i) (rS rm m p)=some r:=by
 have f1:decide (i<((Z5 p).length:Int))=true:=by simp;omega
 have f2:(Z5 p)[i.toNat]? = some (LV.agg [.int i64 a,.bool false,.isl 1 (bys b)]):=hx;have f3:0<=i/\i<((Z5 p).length:Int):=by simp;omega
 have f4:=Fd (n+19) (by omega)
 have f5:LV.int i64 (IntKind.wrap i64 (i+1))=LV.int i64 (i+1):=by simp (disch:=omega)
 have f6:=hr;exact dlp (fun h=>ai (congrArg LV.bool f1)<|ai (f3)<|ai (f2)<|ai (f4)<|ai (f5)<|ai (Eq.refl (Z9 f6))<|ai (f6)<|h) (.i (.s (.s (.a) (.b true (.a))) (.s (.k (.s (.r [.a,.a,.a,.e (rOf f2)]) (.s (.r [.a,.a,.a,.a,.f (rOf f4)]) (.a)))) (.r [.a,.v (vOf f5) (.a)]))) (.h [] (eOf f6) (Zp f6) (rOf f6))) (by kernel_rfl)
abbrev uiS(rm:Int)(m:ML)(p:PL)(a:Int)(b:List Int):St:=⟨2,[(0,LObj.box 36 [.int i64 rm,.isl 2 (Z1 m),.isl 3 (Z5 p)]),(1,LObj.box 121 [.int i64 a,.bool false,.isl 1 (bys b)])]⟩
abbrev uiE(u i:Int)(f:Bool)(k:Int):LEnv:=[.any,.ptr 0 0,.any,.int i64 u,.int i64 i,.ptr 1 0,.any,.any,.bool f,.int i64 k,.any,.any,.any,.any,.any,.any,.any,.any,.any,.any,.any,.any,.any,.any,.any,.any,.any,.any,.any,.any,.any,.any,.any,.any,.any,.any,.any,.any,.any,.any,.any,.any,.any,.any,.any,.any,.any,.any,.any,.any,.any,.any,.any,.any,.any,.any,.any,.any,.any,.any,.any,.any,.any,.any,.any]
abbrev uiX(u i:Int)(f:Bool)(k:Int):LEnv:=[.any,.ptr 0 0,.any,.int i64 u,.int i64 i,.ptr 1 0,.any,.any,.bool f,.int i64 k,.any,.any,.any,.any,.any,.any,.any,.any,.any,.any,.any,.any,.any,.any,.any,.any,.any,.any,.any,.any,.any,.any,.any,.any,.any,.any,.any,.any,.int i64 k,.int i64 i,.bool (decide (k<i)),.any,.any,.any,.any,.any,.any,.any,.any,.any,.any,.any,.any,.any,.any,.any,.any,.any,.any,.any,.any,.any,.any,.any,.any]
theorem ui_hit(n fu:Nat)(rm:Int)(m:ML)(p:PL)(hp:p.length<=1000)(hm:m.length<=1000000)(u i:Int)(hi:i<(p.length:Int))(a:Int)(b:List Int)(f:Bool)(k:Int)(h0:0<=k)(hk:k<i)(w:LV)(hx:(Z5 p)[k.toNat]? = some (.agg [.int .i64 a,.bool false,w]))(r:LX × LEnv × St)(hr:Z2 prog C0 (n+40) 67 1 0 fu (uiE u i false (k+1)) (uiS rm m p a b)=some r):Z2 prog C0 (n+40) 67 1 0 (fu+1) (uiE u i f k) (uiS rm m p a b)=some r:=by
 have f1:decide (k<i)=true:=by simp;omega
 have f2:(Z5 p)[k.toNat]? = some (LV.agg [.int i64 a,.bool false,w]):=hx;have f3:0<=k/\k<((Z5 p).length:Int):=by simp;omega
 have f4:decide (a=a)=true:=by simp
 have f5:LV.bool (if decide (a=a)=true then true else false)=LV.bool true:=by simp
 have f6:LV.int i64 (IntKind.wrap i64 (k+1))=LV.int i64 (k+1):=by simp (disch:=omega)
 have f7:=hr;exact dlp (fun h=>ai (congrArg LV.bool f1)<|ai (f3)<|ai (f2)<|ai (congrArg some f4)<|ai (congrArg some f4)<|ai (congrArg some f4)<|ai (congrArg some f4)<|ai (f3)<|ai (f2)<|ai (congrArg some f4)<|ai (congrArg some f4)<|ai (congrArg some f4)<|ai (f5)<|ai (f6)<|ai (Eq.refl (Z9 f7))<|ai (f7)<|h) (.i (.s (.s (.a) (.b true (.a))) (.s (.k (.s (.d [] [.a,.a,.a,.e (rOf f2),.a,.a,.a,.a,.a,.a,.g true (.a),.g true (.a),.g true (.a)] [] [.g true (.e (rOf f2)),.g true (.a),.g true (.a),.g true (.a),.v (vOf f5) (.a)]) (.a))) (.r [.a,.v (vOf f6) (.a)]))) (.h [] (eOf f7) (Zp f7) (rOf f7))) (by kernel_rfl)
theorem ui_free(n fu:Nat)(rm:Int)(m:ML)(p:PL)(hp:p.length<=1000)(hm:m.length<=1000000)(u i:Int)(hi:i<(p.length:Int))(a:Int)(b:List Int)(f:Bool)(k:Int)(h0:0<=k)(hk:k<i)(w:LV)(hx:(Z5 p)[k.toNat]? = some (.agg [.int .i64 a,.bool true,w]))(r:LX × LEnv × St)(hr:Z2 prog C0 (n+40) 67 1 0 fu (uiE u i f (k+1)) (uiS rm m p a b)=some r):Z2 prog C0 (n+40) 67 1 0 (fu+1) (uiE u i f k) (uiS rm m p a b)=some r:=by
 have f1:decide (k<i)=true:=by simp;omega
 have f2:(Z5 p)[k.toNat]? = some (LV.agg [.int i64 a,.bool true,w]):=hx;have f3:0<=k/\k<((Z5 p).length:Int):=by simp;omega
 have f4:decide (a=a)=true:=by simp
 have f5:LV.bool (if decide (a=a)=true then false else false)=LV.bool false:=by simp
 have f6:LV.int i64 (IntKind.wrap i64 (k+1))=LV.int i64 (k+1):=by simp (disch:=omega)
 have f7:=hr;exact dlp (fun h=>ai (congrArg LV.bool f1)<|ai (f3)<|ai (f2)<|ai (congrArg some f4)<|ai (congrArg some f4)<|ai (congrArg some f4)<|ai (congrArg some f4)<|ai (f3)<|ai (f2)<|ai (congrArg some f4)<|ai (congrArg some f4)<|ai (congrArg some f4)<|ai (f5)<|ai (f6)<|ai (Eq.refl (Z9 f7))<|ai (f7)<|h) (.i (.s (.s (.a) (.b true (.a))) (.s (.k (.s (.d [] [.a,.a,.a,.e (rOf f2),.a,.a,.a,.a,.a,.a,.g true (.a),.g true (.a),.g true (.a)] [] [.g true (.e (rOf f2)),.g true (.a),.g true (.a),.g true (.a),.v (vOf f5) (.a)]) (.a))) (.r [.a,.v (vOf f6) (.a)]))) (.h [] (eOf f7) (Zp f7) (rOf f7))) (by kernel_rfl)
theorem ui_miss(n fu:Nat)(rm:Int)(m:ML)(p:PL)(hp:p.length<=1000)(hm:m.length<=1000000)(u i:Int)(hi:i<(p.length:Int))(a:Int)(b:List Int)(f:Bool)(k:Int)(h0:0<=k)(hk:k<i)(c:Int)(hc:¬ c=a)(v:Bool)(w:LV)(hx:(Z5 p)[k.toNat]? = some (.agg [.int .i64 c,.bool v,w]))(r:LX × LEnv × St)(hr:Z2 prog C0 (n+40) 67 1 0 fu (uiE u i f (k+1)) (uiS rm m p a b)=some r):Z2 prog C0 (n+40) 67 1 0 (fu+1) (uiE u i f k) (uiS rm m p a b)=some r:=by
 have f1:decide (k<i)=true:=by simp;omega
 have f2:(Z5 p)[k.toNat]? = some (LV.agg [.int i64 c,.bool v,w]):=hx;have f3:0<=k/\k<((Z5 p).length:Int):=by simp;omega
 have f4:decide (c=a)=false:=by simp;omega
 have f5:Xf (decide (c=a)) LV.any (LV.bool false)=some (LV.bool false):=by simp;omega
 have f6:LV.int i64 (IntKind.wrap i64 (k+1))=LV.int i64 (k+1):=by simp (disch:=omega)
 have f7:=hr;exact dlp (fun h=>ai (congrArg LV.bool f1)<|ai (f3)<|ai (f2)<|ai (congrArg some f4)<|ai (congrArg some f4)<|ai (congrArg some f4)<|ai (congrArg some f4)<|ai (congrArg some f4)<|ai (congrArg some f4)<|ai (congrArg some f4)<|ai (Y3 (st:=(St.mk 2 [(0,LObj.box 36 [.int i64 rm,.isl 2 (Z1 m),.isl 3 (Z5 p)]),(1,LObj.box 121 [.int i64 a,.bool false,.isl 1 (bys b)])])) f5)<|ai (f6)<|ai (Eq.refl (Z9 f7))<|ai (f7)<|h) (.i (.s (.s (.a) (.b true (.a))) (.s (.k (.s (.d [] [.a,.a,.a,.e (rOf f2),.a,.a,.a,.a,.a,.a,.g false (.a),.g false (.a),.g false (.a)] [] [.g false (.a),.g false (.a),.g false (.a),.g false (.a),.t (rOf (Y3 (st:=(St.mk 2 [(0,LObj.box 36 [.int i64 rm,.isl 2 (Z1 m),.isl 3 (Z5 p)]),(1,LObj.box 121 [.int i64 a,.bool false,.isl 1 (bys b)])])) f5))]) (.a))) (.r [.a,.v (vOf f6) (.a)]))) (.h [] (eOf f7) (Zp f7) (rOf f7))) (by kernel_rfl)
theorem ui_end(n fu:Nat)(rm:Int)(m:ML)(p:PL)(hp:p.length<=1000)(hm:m.length<=1000000)(u i:Int)(hi:i<(p.length:Int))(a:Int)(b:List Int)(f:Bool)(k:Int)(hk:i<=k):
  Z2 prog C0 (n+40) 67 1 0 (fu+1) (uiE u i f k) (uiS rm m p a b)=some (.exit 2,uiX u i f k,uiS rm m p a b):=by
 have f1:decide (k<i)=false:=by simp;omega
 exact dlp (fun h=>ai (congrArg LV.bool f1)<|h) (.i (.s (.s (.a) (.b false (.a))) .a) (.a)) (by kernel_rfl)
abbrev usX(rm:Int)(m:ML)(p:PL)(u i:Int):LEnv:=[.any,.ptr 0 0,.any,.int i64 u,.int i64 i,.any,.any,.any,.any,.any,.any,.any,.any,.int i64 i,.ptr 0 2,.isl 3 (Z5 p),.int i64 ((Z5 p).length:Int),.bool (decide (i<((Z5 p).length:Int))),.any,.any,.any,.any,.any,.any,.any,.any,.any,.any,.any,.any,.any,.any,.any,.any,.any,.any,.any,.any,.any,.any,.any,.any,.any,.any,.any,.any,.any,.any,.any,.any,.any,.any,.any,.any,.any,.any,.any,.any,.any,.any,.any,.any,.any,.any,.any]
theorem us_end(n fu:Nat)(rm:Int)(m:ML)(p:PL)(hp:p.length<=1000)(hm:m.length<=1000000)(u i:Int)(hi:(p.length:Int)<=i):
  Z2 prog C0 (n+40) 67 0 0 (fu+1) (usE u i) (rS rm m p)=some (.exit 0,usX rm m p u i,rS rm m p):=by
 have f1:decide (i<((Z5 p).length:Int))=false:=by simp;omega
 exact dlp (fun h=>ai (congrArg LV.bool f1)<|h) (.i (.s (.s (.a) (.b false (.a))) .a) (.a)) (by kernel_rfl)
theorem us_new(n fu:Nat)(rm:Int)(m:ML)(p:PL)(hp:p.length<=1000)(hm:m.length<=1000000)(u i:Int)(hu:0<=u)(hu2:u<=10000000)(h0:0<=i)(hi:i<(p.length:Int))(a:Int)(b w:List Int)(hx:(Z5 p)[i.toNat]? = some (.agg [.int .i64 a,.bool false,.isl 1 (bys b)]))(Fd:∀ j,100<j+20->Z6 prog C0 (Z3 prog C0 (j+20)) (j+20) 57 [.isl 2 (Z1 m),.int .i64 a] ⟨0,[]⟩=some (.tup [.isl 1 (bys w),.bool false],⟨0,[]⟩))(hn:100<n)(I:Z2 prog C0 (n+40) 67 1 0 (n+40) (uiE u i true 0) (uiS rm m p a b)=some (.exit 2,uiX u i true i,uiS rm m p a b))(r:LX × LEnv × St)(hr:Z2 prog C0 (n+40) 67 0 0 fu (usE (u+1) (i+1)) (rS rm m p)=some r):Z2 prog C0 (n+40) 67 0 0 (fu+1) (usE u i) (rS rm m p)=some r:=by
 have f1:decide (i<((Z5 p).length:Int))=true:=by simp;omega
 have f2:(Z5 p)[i.toNat]? = some (LV.agg [.int i64 a,.bool false,.isl 1 (bys b)]):=hx;have f3:0<=i/\i<((Z5 p).length:Int):=by simp;omega
 have f4:=Fd (n+19) (by omega)
 have f5:=I
 have f6:LV.int i64 (IntKind.wrap i64 (u+1))=LV.int i64 (u+1):=by simp (disch:=omega)
 have f7:LV.int i64 (IntKind.wrap i64 (i+1))=LV.int i64 (i+1):=by simp (disch:=omega)
 have f8:=hr;exact dlp (fun h=>ai (congrArg LV.bool f1)<|ai (f3)<|ai (f2)<|ai (f4)<|ai (Eq.refl (Z9 f5))<|ai (f5)<|ai (f6)<|ai (f7)<|ai (Eq.refl (Z9 f8))<|ai (f8)<|h) (.i (.s (.s (.a) (.b true (.a))) (.s (.k (.s (.r [.a,.a,.a,.e (rOf f2)]) (.s (.r [.a,.a,.a,.a,.f (rOf f4)]) (.s (.a) (.s (.a) (.s (.s (.a) (.k (.l (.h [] (eOf f5) (Zp f5) (rOf f5))))) (.s (.a) (.c (.r [.a,.v (vOf f6) (.a)]))))))))) (.r [.a,.v (vOf f7) (.a)]))) (.h [] (eOf f8) (Zp f8) (rOf f8))) (by kernel_rfl)
theorem us_again(n fu:Nat)(rm:Int)(m:ML)(p:PL)(hp:p.length<=1000)(hm:m.length<=1000000)(u i:Int)(h0:0<=i)(hi:i<(p.length:Int))(a:Int)(b w:List Int)(hx:(Z5 p)[i.toNat]? = some (.agg [.int .i64 a,.bool false,.isl 1 (bys b)]))(Fd:∀ j,100<j+20->Z6 prog C0 (Z3 prog C0 (j+20)) (j+20) 57 [.isl 2 (Z1 m),.int .i64 a] ⟨0,[]⟩=some (.tup [.isl 1 (bys w),.bool false],⟨0,[]⟩))(hn:100<n)(I:Z2 prog C0 (n+40) 67 1 0 (n+40) (uiE u i true 0) (uiS rm m p a b)=some (.exit 2,uiX u i false i,uiS rm m p a b))(r:LX × LEnv × St)(hr:Z2 prog C0 (n+40) 67 0 0 fu (usE u (i+1)) (rS rm m p)=some r):Z2 prog C0 (n+40) 67 0 0 (fu+1) (usE u i) (rS rm m p)=some r:=by
 have f1:decide (i<((Z5 p).length:Int))=true:=by simp;omega
 have f2:(Z5 p)[i.toNat]? = some (LV.agg [.int i64 a,.bool false,.isl 1 (bys b)]):=hx;have f3:0<=i/\i<((Z5 p).length:Int):=by simp;omega
 have f4:=Fd (n+19) (by omega)
 have f5:=I
 have f6:LV.int i64 (IntKind.wrap i64 (i+1))=LV.int i64 (i+1):=by simp (disch:=omega)
 have f7:=hr;exact dlp (fun h=>ai (congrArg LV.bool f1)<|ai (f3)<|ai (f2)<|ai (f4)<|ai (Eq.refl (Z9 f5))<|ai (f5)<|ai (f6)<|ai (Eq.refl (Z9 f7))<|ai (f7)<|h) (.i (.s (.s (.a) (.b true (.a))) (.s (.k (.s (.r [.a,.a,.a,.e (rOf f2)]) (.s (.r [.a,.a,.a,.a,.f (rOf f4)]) (.s (.a) (.s (.a) (.s (.s (.a) (.k (.l (.h [] (eOf f5) (Zp f5) (rOf f5))))) (.a))))))) (.r [.a,.v (vOf f6) (.a)]))) (.h [] (eOf f7) (Zp f7) (rOf f7))) (by kernel_rfl)
theorem us_thru(n:Nat)(rm:Int)(m:ML)(p:PL)(hp:p.length<=1000)(hm:m.length<=1000000)(u:Int)(L:Z2 prog C0 (n+40) 67 0 0 (n+40) (usE m.length 0) (rS rm m p)=some (.exit 0,usX rm m p u p.length,rS rm m p)):
  Z6 prog C0 (Z3 prog C0 (n+40)) (n+40) 67 [rR rm m p] ⟨0,[]⟩=some (.int .i64 u,⟨0,[]⟩):=by
 have f1:LV.int i64 ((Z1 m).length:Int)=LV.int i64 (m.length:Int):=by simp
 have f2:=L
 exact drn (fun h=>ai (f1)<|ai (Eq.refl (Z9 f2))<|ai (f2)<|h) (.s (.a) (.s (.a) (.s (.s (.a) (.k (.l (.h [.y 3 (vOf f1)] (eOf f2) (Zp f2) (rOf f2))))) (.a)))) [] .a (by kernel_rfl)
theorem taken_there(n:Nat)(rm:Int)(m:ML)(p:PL)(hp:p.length<=1000)(hm:m.length<=1000000)(a:Int)(b:List Int)(hn:100<n)(Fd:∀ j,100<j+20->Z6 prog C0 (Z3 prog C0 (j+20)) (j+20) 57 [.isl 2 (Z1 m),.int .i64 a] ⟨0,[]⟩=some (.tup [.isl 1 (bys b),.bool true],⟨0,[]⟩)):
  Z6 prog C0 (Z3 prog C0 (n+40)) (n+40) 66 [rR rm m p,.int .i64 a] ⟨0,[]⟩=some (.bool true,⟨0,[]⟩):=by
 have f1:=Fd (n+19) (by omega)
 exact drn (fun h=>ai (f1)<|h) (.s (.a) (.s (.s (.r [.a,.a,.a,.f (rOf f1)]) (.a)) .a)) [] .a (by kernel_rfl)
theorem taken_hit(n:Nat)(rm:Int)(m:ML)(p:PL)(hp:p.length<=1000)(hm:m.length<=1000000)(a i:Int)(w:LV)(hn:100<n)(Fd:∀ j,100<j+20->Z6 prog C0 (Z3 prog C0 (j+20)) (j+20) 57 [.isl 2 (Z1 m),.int .i64 a] ⟨0,[]⟩=some (.tup [.isl 1 [],.bool false],⟨0,[]⟩))(L:Z2 prog C0 (n+40) 66 0 0 (n+40) (taE a 0) (rS rm m p)=some (.ret,taH rm m p a i w,rS rm m p)):
  Z6 prog C0 (Z3 prog C0 (n+40)) (n+40) 66 [rR rm m p,.int .i64 a] ⟨0,[]⟩=some (.bool true,⟨0,[]⟩):=by
 have f1:=Fd (n+19) (by omega)
 have f2:=L
 exact drn (fun h=>ai (f1)<|ai (Eq.refl (Z9 f2))<|ai (f2)<|h) (.s (.a) (.s (.s (.r [.a,.a,.a,.f (rOf f1)]) (.a)) (.s (.s (.a) (.k (.l (.h [] (eOf f2) (Zp f2) (rOf f2))))) .a))) [] .a (by kernel_rfl)
theorem taken_none(n:Nat)(rm:Int)(m:ML)(p:PL)(hp:p.length<=1000)(hm:m.length<=1000000)(a:Int)(hn:100<n)(Fd:∀ j,100<j+20->Z6 prog C0 (Z3 prog C0 (j+20)) (j+20) 57 [.isl 2 (Z1 m),.int .i64 a] ⟨0,[]⟩=some (.tup [.isl 1 [],.bool false],⟨0,[]⟩))(L:Z2 prog C0 (n+40) 66 0 0 (n+40) (taE a 0) (rS rm m p)=some (.exit 0,taX rm m p a p.length,rS rm m p)):
  Z6 prog C0 (Z3 prog C0 (n+40)) (n+40) 66 [rR rm m p,.int .i64 a] ⟨0,[]⟩=some (.bool false,⟨0,[]⟩):=by
 have f1:=Fd (n+19) (by omega)
 have f2:=L
 exact drn (fun h=>ai (f1)<|ai (Eq.refl (Z9 f2))<|ai (f2)<|h) (.s (.a) (.s (.s (.r [.a,.a,.a,.f (rOf f1)]) (.a)) (.s (.s (.a) (.k (.l (.h [] (eOf f2) (Zp f2) (rOf f2))))) (.a)))) [] .a (by kernel_rfl)
theorem read_hitS(n:Nat)(rm:Int)(m:ML)(p:PL)(hp:p.length<=1000)(hm:m.length<=1000000)(a i:Int)(h0:0<=a)(h1:a<=1073741824)(b:List Int)(v:Bool)(L:Z2 prog C0 (n+40) 50 0 0 (n+40) (reE a ((p.length:Int)-1)) (rS2 rm m p)=some (.ret,reH p a i b v,rS2 rm m p)):
  Z6 prog C0 (Z3 prog C0 (n+40)) (n+40) 50 [rR rm m p,.int .i64 a] ⟨0,[]⟩=some (.tup [.isl 1 (bys (blk b)),.int .i64 0],⟨0,[]⟩):=by
 have f1:decide (0<=a)=true:=by simp;omega
 have f2:LV.bool (if decide (0<=a)=true then decide (a<=1073741824) else false)=LV.bool true:=by simp;omega
 have f3:Z6 prog C0 (Z3 prog C0 (n+39)) (n+39) 65 [.int i64 a] (St.mk 0 [])=some (LV.bool true,St.mk 0 []):=drn (fun h=>ai (congrArg some f1)<|ai (congrArg some f1)<|ai (f2)<|h) (.s (.a) (.s (.r [.a,.a,.a,.g true (.a),.g true (.a),.v (vOf f2) (.a)]) (.a))) [] .a (by kernel_rfl)
 have f4:LV.int i64 (IntKind.wrap i64 (((Z5 p).length:Int)-1))=LV.int i64 ((p.length:Int)-1):=by simp (disch:=omega)
 have f5:=L
 exact drn (fun h=>ai (f3)<|ai (f4)<|ai (Eq.refl (Z9 f5))<|ai (f5)<|h) (.s (.a) (.s (.s (.r [.a,.f (rOf f3)]) (.a)) (.s (.s (.r [.a,.a,.a,.v (vOf f4) (.a)]) (.k (.l (.h [] (eOf f5) (Zp f5) (rOf f5))))) .a))) [] .a (by kernel_rfl)
theorem read_hitN(n:Nat)(rm:Int)(m:ML)(p:PL)(hp:p.length<=1000)(hm:m.length<=1000000)(a i:Int)(h0:0<=a)(h1:a<=1073741824)(v:Bool)(L:Z2 prog C0 (n+40) 50 0 0 (n+40) (reE a ((p.length:Int)-1)) (rS2 rm m p)=some (.ret,reN p a i v,rS2 rm m p)):
  Z6 prog C0 (Z3 prog C0 (n+40)) (n+40) 50 [rR rm m p,.int .i64 a] ⟨0,[]⟩=some (.tup [.isl 1 (bys (List.replicate 64 0)),.int .i64 0],⟨0,[]⟩):=by
 have f1:decide (0<=a)=true:=by simp;omega
 have f2:LV.bool (if decide (0<=a)=true then decide (a<=1073741824) else false)=LV.bool true:=by simp;omega
 have f3:Z6 prog C0 (Z3 prog C0 (n+39)) (n+39) 65 [.int i64 a] (St.mk 0 [])=some (LV.bool true,St.mk 0 []):=drn (fun h=>ai (congrArg some f1)<|ai (congrArg some f1)<|ai (f2)<|h) (.s (.a) (.s (.r [.a,.a,.a,.g true (.a),.g true (.a),.v (vOf f2) (.a)]) (.a))) [] .a (by kernel_rfl)
 have f4:LV.int i64 (IntKind.wrap i64 (((Z5 p).length:Int)-1))=LV.int i64 ((p.length:Int)-1):=by simp (disch:=omega)
 have f5:=L
 exact drn (fun h=>ai (f3)<|ai (f4)<|ai (Eq.refl (Z9 f5))<|ai (f5)<|h) (.s (.a) (.s (.s (.r [.a,.f (rOf f3)]) (.a)) (.s (.s (.r [.a,.a,.a,.v (vOf f4) (.a)]) (.k (.l (.h [] (eOf f5) (Zp f5) (rOf f5))))) .a))) [] .a (by kernel_rfl)
theorem read_cell(n:Nat)(rm:Int)(m:ML)(p:PL)(hp:p.length<=1000)(hm:m.length<=1000000)(a:Int)(h0:0<=a)(h1:a<=1073741824)(L:Z2 prog C0 (n+40) 50 0 0 (n+40) (reE a ((p.length:Int)-1)) (rS2 rm m p)=some (.exit 0,reX a,rS2 rm m p))(hn:100<n)(b:List Int)(hb:b.length<=64)(Fd:∀ j,100<j+20->Z6 prog C0 (Z3 prog C0 (j+20)) (j+20) 57 [.isl 2 (Z1 m),.int .i64 a] ⟨0,[]⟩=some (.tup [.isl 1 (bys b),.bool true],⟨0,[]⟩)):
  Z6 prog C0 (Z3 prog C0 (n+40)) (n+40) 50 [rR rm m p,.int .i64 a] ⟨0,[]⟩=some (.tup [.isl 1 (bys (blk b)),.int .i64 0],⟨0,[]⟩):=by
 have f1:decide (0<=a)=true:=by simp;omega
 have f2:LV.bool (if decide (0<=a)=true then decide (a<=1073741824) else false)=LV.bool true:=by simp;omega
 have f3:Z6 prog C0 (Z3 prog C0 (n+39)) (n+39) 65 [.int i64 a] (St.mk 0 [])=some (LV.bool true,St.mk 0 []):=drn (fun h=>ai (congrArg some f1)<|ai (congrArg some f1)<|ai (f2)<|h) (.s (.a) (.s (.r [.a,.a,.a,.g true (.a),.g true (.a),.v (vOf f2) (.a)]) (.a))) [] .a (by kernel_rfl)
 have f4:LV.int i64 (IntKind.wrap i64 (((Z5 p).length:Int)-1))=LV.int i64 ((p.length:Int)-1):=by simp (disch:=omega)
 have f5:=L
 have f6:=Fd (n+19) (by omega)
 have f7:=pad_ok (n+19) b hb (by omega)
 exact drn (fun h=>ai (f3)<|ai (f4)<|ai (Eq.refl (Z9 f5))<|ai (f5)<|ai (f6)<|ai (f7)<|h) (.s (.a) (.s (.s (.r [.a,.f (rOf f3)]) (.a)) (.s (.s (.r [.a,.a,.a,.v (vOf f4) (.a)]) (.k (.l (.h [] (eOf f5) (Zp f5) (rOf f5))))) (.s (.r [.a,.a,.a,.f (rOf f6)]) (.s (.r [.a,.f (rOf f7)]) (.a)))))) [] .a (by kernel_rfl)
theorem read_none(n:Nat)(rm:Int)(m:ML)(p:PL)(hp:p.length<=1000)(hm:m.length<=1000000)(a:Int)(h0:0<=a)(h1:a<=1073741824)(L:Z2 prog C0 (n+40) 50 0 0 (n+40) (reE a ((p.length:Int)-1)) (rS2 rm m p)=some (.exit 0,reX a,rS2 rm m p))(hn:100<n)(Fd:∀ j,100<j+20->Z6 prog C0 (Z3 prog C0 (j+20)) (j+20) 57 [.isl 2 (Z1 m),.int .i64 a] ⟨0,[]⟩=some (.tup [.isl 1 [],.bool false],⟨0,[]⟩)):
  Z6 prog C0 (Z3 prog C0 (n+40)) (n+40) 50 [rR rm m p,.int .i64 a] ⟨0,[]⟩=some (.tup [.isl 1 (bys (List.replicate 64 0)),.int .i64 0],⟨0,[]⟩):=by
 have f1:decide (0<=a)=true:=by simp;omega
 have f2:LV.bool (if decide (0<=a)=true then decide (a<=1073741824) else false)=LV.bool true:=by simp;omega
 have f3:Z6 prog C0 (Z3 prog C0 (n+39)) (n+39) 65 [.int i64 a] (St.mk 0 [])=some (LV.bool true,St.mk 0 []):=drn (fun h=>ai (congrArg some f1)<|ai (congrArg some f1)<|ai (f2)<|h) (.s (.a) (.s (.r [.a,.a,.a,.g true (.a),.g true (.a),.v (vOf f2) (.a)]) (.a))) [] .a (by kernel_rfl)
 have f4:LV.int i64 (IntKind.wrap i64 (((Z5 p).length:Int)-1))=LV.int i64 ((p.length:Int)-1):=by simp (disch:=omega)
 have f5:=L
 have f6:=Fd (n+19) (by omega)
 exact drn (fun h=>ai (f3)<|ai (f4)<|ai (Eq.refl (Z9 f5))<|ai (f5)<|ai (f6)<|h) (.s (.a) (.s (.s (.r [.a,.f (rOf f3)]) (.a)) (.s (.s (.r [.a,.a,.a,.v (vOf f4) (.a)]) (.k (.l (.h [] (eOf f5) (Zp f5) (rOf f5))))) (.s (.r [.a,.a,.a,.f (rOf f6)]) (.a))))) [] .a (by kernel_rfl)
theorem cells_same(n:Nat)(m k:ML)(hm:m.length<=1000000)(hk:k.length=m.length)(L:Z2 prog C0 (n+40) 21 0 0 (n+40) (ceE2 m k 0) ⟨0,[]⟩=some (.exit 0,ceX2 m k m.length,⟨0,[]⟩)):
  Z6 prog C0 (Z3 prog C0 (n+40)) (n+40) 21 [.isl 2 (Z1 m),.isl 2 (Z1 k)] ⟨0,[]⟩=some (.bool true,⟨0,[]⟩):=by
 have f1:(!decide (((Z1 m).length:Int)=((Z1 k).length:Int)))=false:=by simp;omega
 have f2:=L
 exact drn (fun h=>ai (congrArg LV.bool f1)<|ai (Eq.refl (Z9 f2))<|ai (f2)<|h) (.s (.a) (.s (.s (.a) (.b false (.a))) (.s (.s (.a) (.k (.l (.h [] (eOf f2) (Zp f2) (rOf f2))))) (.a)))) [] .a (by kernel_rfl)
@[simp] theorem loosR_snocS(p:PL)(a:Int)(b:List Int):Z5 p++[.agg [.int .i64 a,.bool false,.isl 1 (bys b)]]=Z5 (p++[(a,some b)]):=by simp [Z5,looR]
@[simp] theorem loosR_snocF(p:PL)(a:Int):Z5 p++[.agg [.int .i64 a,.bool true,.nils]]=Z5 (p++[(a,none)]):=by simp [Z5,looR]
theorem and_someP(n:Nat)(rm:Int)(m:ML)(p:PL)(hp:p.length<=1000)(hm:m.length<=1000000)(a:Int)(b:List Int)(h0:0<p.length):
  Z6 prog C0 (Z3 prog C0 (n+40)) (n+40) 68 [rR rm m p,.agg [.int .i64 a,.bool false,.isl 1 (bys b)]] ⟨0,[]⟩=some (rR rm m (p++[(a,some b)]),⟨0,[]⟩):=by
 have hT:List.take (p.length+1) (Z5 (p++[(a,some b)]))=Z5 (p++[(a,some b)]):=List.take_of_length_le (by simp)
 have f1:Yj true 3 (Zo (Z5 p))=true:=by simp
 have f2:List.length (Zo (Z5 p))*40<=140737488355328:=by simp;omega
 have f3:LV.sl 3 4 0 (List.length (Zo (Z5 p))) none=LV.sl 3 4 0 (List.length p) none:=by simp
 have f4:LObj.row 121 3 (Zo (Z5 p))=LObj.row 121 3 (Z5 p):=by simp
 have f5:1<=1:=by omega
 have f6:List.length (Z5 p)=List.length p/\(List.length p+1)*40<=140737488355328:=by simp;omega
 have f7:LObj.row 121 3 (Z5 p++List.take 1 (List.drop 0 (List.set [.agg [.int i64 0,.bool false,.nils]] 0 (LV.agg [.int i64 a,.bool false,.isl 1 (bys b)]))))=LObj.row 121 3 (Z5 (p++[(a,some b)])):=by simp
 have f8:LObj.row 121 3 (List.set [.agg [.int i64 0,.bool false,.nils]] 0 (LV.agg [.int i64 a,.bool false,.isl 1 (bys b)]))=LObj.row 121 3 [.agg [.int i64 a,.bool false,.isl 1 (bys b)]]:=by simp
 have f9:LV.agg [.int i64 rm,.isl 2 (Z1 m),if 6=6 then if 3=3/\0+(List.length p+1)<=List.length (Z5 (p++[(a,some b)]))/\X1 (List.length p+1) none=true then LV.isl 3 (List.take (List.length p+1) (List.drop 0 (Z5 (p++[(a,some b)])))) else LV.any else LV.sl 3 6 0 (List.length p+1) none]=LV.agg [.int i64 rm,.isl 2 (Z1 m),.isl 3 (Z5 (p++[(a,some b)]))]:=by simp;omega
 have f10:LObj.box 36 [.int i64 rm,.isl 2 (Z1 m),if 6=6 then if 3=3/\0+(List.length p+1)<=List.length (Z5 (p++[(a,some b)]))/\X1 (List.length p+1) none=true then LV.isl 3 (List.take (List.length p+1) (List.drop 0 (Z5 (p++[(a,some b)])))) else LV.any else LV.sl 3 6 0 (List.length p+1) none]=LObj.box 36 [.int i64 rm,.isl 2 (Z1 m),.isl 3 (Z5 (p++[(a,some b)]))]:=by simp;omega
 exact drn (fun h=>ai (f1)<|ai (f2)<|ai (f3)<|ai (congrArg some f4)<|ai (f5)<|ai (f6)<|ai (congrArg some f7)<|ai (congrArg some f8)<|ai (f9)<|ai (congrArg some f10)<|ai (congrArg some f10)<|h) (.s (.a) (.s (.a) (.s (.r [.a,.a,.a,.a,.x 4 (vOf f4) (.v (vOf f3) (.q))]) (.s (.r [.a,.a,.a,.a,.x 5 (vOf f8) (.x 6 (vOf f7) (.q))]) (.a))))) [.y 0 (vOf f9),.x 3 (vOf f10),.x 2 (vOf f10)] .a (by kernel_rfl)
theorem and_some0(n:Nat)(rm:Int)(m:ML)(hm:m.length<=1000000)(a:Int)(b:List Int):
  Z6 prog C0 (Z3 prog C0 (n+40)) (n+40) 68 [.agg [.int .i64 rm,.isl 2 (Z1 m),.isl 3 []],.agg [.int .i64 a,.bool false,.isl 1 (bys b)]] ⟨0,[]⟩=some (rR rm m [(a,some b)],⟨0,[]⟩):=by
 exact drn (fun h=>h) (.a) [] .a (by kernel_rfl)
theorem blk_of64{b:List Int}(h:b.length=64):blk b=b:=by
 rw [<- blk_padS,List.take_append_of_le_length (by omega),List.take_of_length_le (by omega)]
theorem rd_nil(m:ML)(a:Int):rd m [] a=cur m a:=by
 unfold rd cur;simp only [lastW]
 cases mget m a with
 | some b=>rfl
 | none=>rfl
theorem drop_head{α:Type}{l:List α}{k:Nat}{x:α}{q:List α}(h:l.drop k=x::q):l[k]? = some x/\k<l.length/\l.drop (k+1)=q:=by
 have h1:l[k]? = some x:=by
  have:=congrArg List.head? h;simpa [List.head?_drop] using this
 exact ⟨h1,(List.getElem?_eq_some_iff.1 h1).1,by rw [<- List.drop_drop,h];rfl⟩
theorem find_loop(n:Nat)(m:ML)(hm:m.length<=1000000)(a:Int):∀ (q:ML) (k fu:Nat),m.drop k=q->k<=m.length->q.length<fu ->
  (∀ b,mget q a=some b->∃ i,Z2 prog Ck (n+20) 57 0 0 fu (fiE m a k) ⟨0,[]⟩=some (.ret,fiH m a i b,⟨0,[]⟩)) /\
  (mget q a=none->Z2 prog Ck (n+20) 57 0 0 fu (fiE m a k) ⟨0,[]⟩=some (.exit 0,fiX m a m.length,⟨0,[]⟩))
 | [],k,fu,hd,hk,hf=>by
  obtain ⟨fu,rfl⟩:∃ q,fu=q+1:=⟨fu-1,by omega⟩
  have:m.length<=k:=by simpa using hd
  obtain rfl:k=m.length:=by omega
  exact ⟨fun b h=>by simp [mget] at h,fun _=>fi_end n fu m hm a _ (by omega)⟩
 | (c,v)::q,k,fu,hd,hk,hf=>by
  obtain ⟨fu,rfl⟩:∃ q,fu=q+1:=⟨fu-1,by simp at hf;omega⟩
  obtain ⟨hx,hlt,hd2⟩:=drop_head hd;have hx2:=Wy hx
  by_cases h:c=a
  ·subst h
   refine ⟨fun b hb=>?_,fun hn=>by simp [mget] at hn⟩
   simp only [mget,if_true,Option.some.injEq] at hb;subst hb;exact ⟨(k:Int),fi_hit n fu m hm c (k:Int) (by omega) (by omega) v hx2⟩
  ·obtain ⟨i1,i2⟩:=find_loop n m hm a q (k+1) fu hd2 (by omega) (by simp at hf;omega)
   have st:=fi_step n fu m hm a (k:Int) (by omega) (by omega) c v hx2 h
   refine ⟨fun b hb=>?_,fun hb=>?_⟩
   ·simp only [mget,if_neg h] at hb
    obtain ⟨i,hi⟩:=i1 b hb;exact ⟨i,st _ hi⟩
   ·simp only [mget,if_neg h] at hb
    exact st _ (i2 hb)
abbrev findV(m:ML)(a:Int):LV:=.tup [.isl 1 (bys ((mget m a).getD [])),.bool (mget m a).isSome]
theorem find_ck(n:Nat)(m:ML)(hm:m.length<=1000000)(a:Int)(hn:m.length<n+20):
  Z6 prog Ck (Z3 prog Ck (n+20)) (n+20) 57 [.isl 2 (Z1 m),.int .i64 a] ⟨0,[]⟩=some (findV m a,⟨0,[]⟩):=by
 obtain ⟨h1,h2⟩:=find_loop n m hm a m 0 (n+20) rfl (by omega) hn
 cases h:mget m a with
 | some b =>
  obtain ⟨i,hi⟩:=h1 b h;unfold findV;rw [h];exact find_hit n m hm a i b hi
 | none =>
  unfold findV;rw [h];exact find_none n m hm a (h2 h)
theorem find_c0(n:Nat)(m:ML)(a:Int)(hm:m.length<=500):
  Z6 prog C0 (Z3 prog C0 n) n 57 [.isl 2 (Z1 m),.int .i64 a] ⟨0,[]⟩=some (findV m a,⟨0,[]⟩):=
 x_runx (C:=C0) (G:=via 57) rfl (lcall_nil («as»:=[.isl 2 (Z1 m),.int .i64 a]) rfl (find_ck 579 m (by omega) a (by omega))) (by kernel_rfl)
def insR(a:Int)(b:List Int):ML->ML
 | []=>[(a,b)]
 | (c,v)::q=>if c<a then (c,v)::insR a b q else if c=a then (a,b)::q else (a,b)::(c,v)::q
theorem Asc.tail{x:Int × List Int}{m:ML}(h:Asc (x::m)):Asc m:=(List.pairwise_cons.1 (show (x.1::Zn m).Pairwise (· < ·) from h)).2
theorem Asc.lt{x:Int × List Int}{m:ML}(h:Asc (x::m)):∀ y∈Zn m,x.1<y:=(List.pairwise_cons.1 (show (x.1::Zn m).Pairwise (· < ·) from h)).1
theorem insR_put(a:Int)(b:List Int):∀ m:ML,Asc m->W6 m a b=insR a b m
 | [],_=>rfl
 | (c,v)::m,h=>by
  have ih:=insR_put a b m (Asc.tail h);unfold W6 at ih ⊢;simp only [insR]
  by_cases h1:c<a
  ·rw [if_pos h1]
   have hg:mget ((c,v)::m) a=mget m a:=by simp only [mget];rw [if_neg (by omega)]
   rw [hg]
   by_cases hs:(mget m a).isSome=true
   ·rw [if_pos hs] at ih ⊢
    simp only [mset];rw [if_neg (by omega),ih]
   ·rw [if_neg hs] at ih ⊢
    simp only [mins];rw [if_neg (by omega),ih]
  ·rw [if_neg h1]
   by_cases h2:c=a
   ·subst h2
    have hg:mget ((c,v)::m) c=some v:=by simp [mget]
    simp [hg,mset]
   ·have hn:a∉Zn ((c,v)::m):=by
     simp only [Zn,List.map_cons,List.mem_cons];rintro (e | e)
     ·exact h2 e.symm
     ·have:=Asc.lt h a e;simp only at this;omega
    have hg:¬ (mget ((c,v)::m) a).isSome=true:=fun q=>hn ((Xe _ _).1 q)
    rw [if_neg hg,if_neg h2];simp only [mins];rw [if_pos (by omega)]
theorem ov_len(o:ML)(x:Int × List Int):(o++[x]).length=o.length+1:=by simp
theorem ov_len2(o:ML)(x y:Int × List Int):(o++[x,y]).length=o.length+1+1:=by simp
theorem pw_restL(n:Nat)(m:ML)(hm:m.length<=50000)(a:Int)(b:List Int):∀ (q:ML) (k fu:Nat) (o:ML),m.drop k=q->k<=m.length->q.length<fu->(∀ x∈q,¬ x.1=a)->0<o.length->o.length<=k+1 ->
  Z2 prog Ck (n+40) 59 0 0 fu (puE m (.sl 2 1 0 o.length none) true k) (puS a false (.isl 1 (bys b)) o)=some (.exit 0,puX m (.sl 2 1 0 (o++q).length none) true m.length,puS a false (.isl 1 (bys b)) (o++q))
 | [],k,fu,o,hd,hk,hf,hq,h0,ho=>by
  obtain ⟨fu,rfl⟩:∃ q,fu=q+1:=⟨fu-1,by omega⟩
  have:m.length<=k:=by simpa using hd
  obtain rfl:k=m.length:=by omega
  rw [List.append_nil];exact pw_endT n fu m (by omega) o (by omega) h0 a b _ (by omega)
 | (c,v)::q,k,fu,o,hd,hk,hf,hq,h0,ho=>by
  obtain ⟨fu,rfl⟩:∃ q,fu=q+1:=⟨fu-1,by simp at hf;omega⟩
  obtain ⟨hx,hlt,hd2⟩:=drop_head hd;have ih:=pw_restL n m hm a b q (k+1) fu (o++[(c,v)]) hd2 (by omega) (by simp at hf;omega) (fun x hx=>hq x (by simp [hx])) (by simp) (by simp;omega)
  rw [ov_len,List.append_assoc] at ih;exact pw_rest n fu m (by omega) o (by omega) h0 a b (k:Int) (by omega) (by omega) c v (Wy hx) (hq (c,v) (by simp)) _ ih
theorem asc_drop{m:ML}(h:Asc m)(k:Nat):Asc (m.drop k):=h.sublist ((List.drop_sublist k m).map _)
theorem pw_loopR(n:Nat)(m:ML)(hm:m.length<=50000)(ha:Asc m)(a:Int)(b:List Int):∀ (q:ML) (k fu:Nat) (o:ML),m.drop k=q->k<=m.length->q.length<fu->0<o.length->o.length<=k ->
  ∃ (o':ML) (d:Bool),0<o'.length/\o'.length<=m.length+2/\(if d then o'=o++insR a b q else o'++[(a,b)]=o++insR a b q) /\
  Z2 prog Ck (n+40) 59 0 0 fu (puE m (.sl 2 1 0 o.length none) false k) (puS a false (.isl 1 (bys b)) o)=some (.exit 0,puX m (.sl 2 1 0 o'.length none) d m.length,puS a false (.isl 1 (bys b)) o')
 | [],k,fu,o,hd,hk,hf,h0,ho=>by
  obtain ⟨fu,rfl⟩:∃ q,fu=q+1:=⟨fu-1,by omega⟩
  have:m.length<=k:=by simpa using hd
  obtain rfl:k=m.length:=by omega
  exact ⟨o,false,h0,by omega,by simp [insR],pw_endR n fu m (by omega) o (by omega) h0 a b _ (by omega)⟩
 | (c,v)::q,k,fu,o,hd,hk,hf,h0,ho=>by
  obtain ⟨fu,rfl⟩:∃ q,fu=q+1:=⟨fu-1,by simp at hf;omega⟩
  obtain ⟨hx,hlt,hd2⟩:=drop_head hd;have hA:Asc ((c,v)::q):=by rw [<- hd];exact asc_drop ha k
  have hlen:(q.length:Int)+k+1=m.length:=by
   have:=congrArg List.length hd;simp at this;omega
  by_cases h1:c<a
  ·obtain ⟨o',d,g1,g2,g3,g4⟩:=pw_loopR n m hm ha a b q (k+1) fu (o++[(c,v)]) hd2 (by omega) (by simp at hf;omega) (by simp) (by simp;omega)
   rw [ov_len] at g4;refine ⟨o',d,g1,g2,?_,pw_keepR n fu m (by omega) o (by omega) h0 a b (k:Int) (by omega) (by omega) c v (Wy hx) h1 _ g4⟩
   simp only [insR,if_pos h1];rw [List.append_assoc] at g3;exact g3
  ·have hne:∀ x∈q,¬ x.1=a:=fun x hxq e=>by
    have:=Asc.lt hA x.1 (List.mem_map.2 ⟨x,hxq,rfl⟩);simp only at this;omega
   by_cases h2:c=a
   ·have R:=pw_restL n m hm a b q (k+1) fu (o++[(a,b)]) hd2 (by omega) (by simp at hf;omega) hne (by simp) (by simp;omega)
    rw [ov_len,List.append_assoc] at R;refine ⟨o++([(a,b)]++q),true,by simp;omega,by simp;omega,?_,pw_eqR n fu m (by omega) o (by omega) h0 a b (k:Int) (by omega) (by omega) c v (Wy hx) h2 _ R⟩
    simp [insR,h1,h2]
   ·have R:=pw_restL n m hm a b q (k+1) fu (o++[(a,b),(c,v)]) hd2 (by omega) (by simp at hf;omega) hne (by simp) (by simp;omega)
    rw [ov_len2,List.append_assoc] at R;refine ⟨o++([(a,b),(c,v)]++q),true,by simp;omega,by simp;omega,?_,pw_gtR n fu m (by omega) o (by omega) h0 a b (k:Int) (by omega) (by omega) c v (Wy hx) (by omega) _ R⟩
    simp [insR,h1,h2]
theorem put_ck(n:Nat)(m:ML)(hm:m.length<=50000)(ha:Asc m)(a:Int)(b:List Int)(hn:m.length<n+40):
  Z6 prog Ck (Z3 prog Ck (n+40)) (n+40) 59 [.isl 2 (Z1 m),.agg [.int .i64 a,.bool false,.isl 1 (bys b)]] ⟨0,[]⟩=some (.isl 2 (Z1 (W6 m a b)),⟨0,[]⟩):=by
 rw [insR_put a b m ha]
 match m,hm,ha,hn with
 | [],hm,ha,hn =>
  exact pw_thruN n [] (by simp) a b (by
   have:=pw_endN n (n+39) [] (by simp) a b 0 (by simp)
   exact this)
 | (c,v)::q,hm,ha,hn =>
  have hx:(Z1 ((c,v)::q))[(0:Int).toNat]? = some (.agg [.int .i64 c,.isl 1 (bys v)]):=rfl;have hl:((c,v)::q).length<=100000:=by omega
  simp only [List.length_cons] at hm hn;have fin:∀ (o':ML) (d:Bool),0<o'.length->o'.length<=q.length+1+2->(if d then o'=insR a b ((c,v)::q) else o'++[(a,b)]=insR a b ((c,v)::q)) ->
    Z2 prog Ck (n+40) 59 0 0 (n+40) (puE ((c,v)::q) .nils false 0) (puN a false (.isl 1 (bys b)))=some (.exit 0,puX ((c,v)::q) (.sl 2 1 0 o'.length none) d ((c,v)::q).length,puS a false (.isl 1 (bys b)) o') ->
    Z6 prog Ck (Z3 prog Ck (n+40)) (n+40) 59 [.isl 2 (Z1 ((c,v)::q)),.agg [.int .i64 a,.bool false,.isl 1 (bys b)]] ⟨0,[]⟩=some (.isl 2 (Z1 (insR a b ((c,v)::q))),⟨0,[]⟩):=by
   intro o' d h1 h2 h3 h4
   cases d with
   | true=>rw [if_pos rfl] at h3;rw [<- h3];exact pw_thruT n _ hl o' (by omega) h1 a b h4
   | false=>rw [if_neg (by simp)] at h3;rw [<- h3];exact pw_thruR n _ hl o' (by omega) h1 a b h4
  have hne:¬ c<a->∀ x∈q,¬ x.1=a:=fun h1 x hxq e=>by
   have:=Asc.lt ha x.1 (List.mem_map.2 ⟨x,hxq,rfl⟩);simp only at this;omega
  by_cases h1:c<a
  ·obtain ⟨o',d,g1,g2,g3,g4⟩:=pw_loopR n ((c,v)::q) (by simp;omega) ha a b q 1 (n+39) [(c,v)] rfl (by simp) (by omega) (by simp) (by simp)
   refine fin o' d g1 (by simp at g2;omega) ?_ (pw_keepN n (n+39) _ hl a b 0 (by omega) (by simp) c v hx h1 _ g4)
   simp only [insR,if_pos h1];simpa using g3
  ·by_cases h2:c=a
   ·have R:=pw_restL n ((c,v)::q) (by simp;omega) a b q 1 (n+39) [(a,b)] rfl (by simp) (by omega) (hne h1) (by simp) (by simp)
    refine fin ((a,b)::q) true (by simp) (by simp only [List.length_cons];omega) (by simp [insR,h1,h2]) (pw_eqN n (n+39) _ hl a b 0 (by omega) (by simp) c v hx h2 _ R)
   ·have R:=pw_restL n ((c,v)::q) (by simp;omega) a b q 1 (n+39) [(a,b),(c,v)] rfl (by simp) (by omega) (hne h1) (by simp) (by simp)
    refine fin ((a,b)::(c,v)::q) true (by simp) (by simp only [List.length_cons];omega) (by simp [insR,h1,h2]) (pw_gtN n (n+39) _ hl a b 0 (by omega) (by simp) c v hx (by omega) _ R)
abbrev syS(rm:Int)(m:ML)(p:PL)(c:ML):St:=⟨3,[(0,LObj.box 36 [.int i64 rm,.isl 2 (Z1 m),.isl 3 (Z5 p)]),(1,LObj.box 36 [.int i64 0,.nils,.nils]),(2,LObj.box 36 [.int i64 rm,.isl 2 (Z1 c),.nils])]⟩
abbrev syE(i:Int):LEnv:=[.any,.ptr 0 0,.ptr 1 0,.ptr 2 0,.int i64 i,.any,.any,.any,.any,.any,.any,.any,.any,.any,.any,.any,.any,.any,.any,.any,.any,.any,.any,.any,.any,.any,.any]
abbrev syX(p:PL)(i:Int):LEnv:=[.any,.ptr 0 0,.ptr 1 0,.ptr 2 0,.int i64 i,.any,.any,.any,.any,.any,.int i64 i,.ptr 0 2,.isl 3 (Z5 p),.int i64 ((Z5 p).length:Int),.bool (decide (i<((Z5 p).length:Int))),.any,.any,.any,.any,.any,.any,.any,.any,.any,.any,.any,.any]
theorem sy_stepS(n fu:Nat)(rm:Int)(m:ML)(p:PL)(hp:p.length<=1000)(hm:m.length<=100000)(c c':ML)(i:Int)(h0:0<=i)(hi:i<(p.length:Int))(a:Int)(b:List Int)(hx:(Z5 p)[i.toNat]? = some (.agg [.int .i64 a,.bool false,.isl 1 (bys b)]))(U:∀ j,200<j->Z6 prog C0 (Z3 prog C0 (j+40)) (j+40) 59 [.isl 2 (Z1 c),.agg [.int .i64 a,.bool false,.isl 1 (bys b)]] ⟨0,[]⟩=some (.isl 2 (Z1 c'),⟨0,[]⟩))(hn:200<n)(r:LX × LEnv × St)(hr:Z2 prog C0 (n+60) 30 0 0 fu (syE (i+1)) (syS rm m p c')=some r):Z2 prog C0 (n+60) 30 0 0 (fu+1) (syE i) (syS rm m p c)=some r:=by
 have f1:decide (i<((Z5 p).length:Int))=true:=by simp;omega
 have f2:(Z5 p)[i.toNat]? = some (LV.agg [.int i64 a,.bool false,.isl 1 (bys b)]):=hx;have f3:0<=i/\i<((Z5 p).length:Int):=by simp;omega
 have f4:=U (n+19) (by omega)
 have f5:LV.int i64 (IntKind.wrap i64 (i+1))=LV.int i64 (i+1):=by simp (disch:=omega)
 have f6:=hr;exact dlp (fun h=>ai (congrArg LV.bool f1)<|ai (f3)<|ai (f2)<|ai (f4)<|ai (f5)<|ai (Eq.refl (Z9 f6))<|ai (f6)<|h) (.i (.s (.s (.a) (.b true (.a))) (.s (.k (.d [] [.a,.a,.a,.a,.a,.e (rOf f2),.a] [] [.f (rOf f4)])) (.r [.a,.v (vOf f5) (.a)]))) (.h [] (eOf f6) (Zp f6) (rOf f6))) (by kernel_rfl)
theorem sy_stepN(n fu:Nat)(rm:Int)(m:ML)(p:PL)(hp:p.length<=1000)(hm:m.length<=100000)(c c':ML)(i:Int)(h0:0<=i)(hi:i<(p.length:Int))(a:Int)(hx:(Z5 p)[i.toNat]? = some (.agg [.int .i64 a,.bool true,.nils]))(U:∀ j,200<j->Z6 prog C0 (Z3 prog C0 (j+40)) (j+40) 59 [.isl 2 (Z1 c),.agg [.int .i64 a,.bool true,.nils]] ⟨0,[]⟩=some (.isl 2 (Z1 c'),⟨0,[]⟩))(hn:200<n)(r:LX × LEnv × St)(hr:Z2 prog C0 (n+60) 30 0 0 fu (syE (i+1)) (syS rm m p c')=some r):Z2 prog C0 (n+60) 30 0 0 (fu+1) (syE i) (syS rm m p c)=some r:=by
 have f1:decide (i<((Z5 p).length:Int))=true:=by simp;omega
 have f2:(Z5 p)[i.toNat]? = some (LV.agg [.int i64 a,.bool true,.nils]):=hx;have f3:0<=i/\i<((Z5 p).length:Int):=by simp;omega
 have f4:=U (n+19) (by omega)
 have f5:LV.int i64 (IntKind.wrap i64 (i+1))=LV.int i64 (i+1):=by simp (disch:=omega)
 have f6:=hr;exact dlp (fun h=>ai (congrArg LV.bool f1)<|ai (f3)<|ai (f2)<|ai (f4)<|ai (f5)<|ai (Eq.refl (Z9 f6))<|ai (f6)<|h) (.i (.s (.s (.a) (.b true (.a))) (.s (.k (.d [] [.a,.a,.a,.a,.a,.e (rOf f2),.a] [] [.f (rOf f4)])) (.r [.a,.v (vOf f5) (.a)]))) (.h [] (eOf f6) (Zp f6) (rOf f6))) (by kernel_rfl)
theorem sy_end(n fu:Nat)(rm:Int)(m:ML)(p:PL)(hp:p.length<=1000)(hm:m.length<=100000)(c:ML)(i:Int)(hi:(p.length:Int)<=i):
  Z2 prog C0 (n+60) 30 0 0 (fu+1) (syE i) (syS rm m p c)=some (.exit 0,syX p i,syS rm m p c):=by
 have f1:decide (i<((Z5 p).length:Int))=false:=by simp;omega
 exact dlp (fun h=>ai (congrArg LV.bool f1)<|h) (.i (.s (.s (.a) (.b false (.a))) .a) (.a)) (by kernel_rfl)
theorem sy_thru(n:Nat)(rm:Int)(m:ML)(p:PL)(hp:p.length<=1000)(hm:m.length<=100000)(c:ML)(L:Z2 prog C0 (n+60) 30 0 0 (n+60) (syE 0) (syS rm m p m)=some (.exit 0,syX p p.length,syS rm m p c)):
  Z6 prog C0 (Z3 prog C0 (n+60)) (n+60) 30 [rR rm m p] ⟨0,[]⟩=some (.agg [.int .i64 rm,.isl 2 (Z1 c),.isl 3 []],⟨0,[]⟩):=by
 have f1:=L
 exact drn (fun h=>ai (Eq.refl (Z9 f1))<|ai (f1)<|h) (.s (.a) (.s (.a) (.s (.s (.a) (.k (.l (.h [] (eOf f1) (Zp f1) (rOf f1))))) (.a)))) [] .a (by kernel_rfl)
theorem Xg{p:PL}{i:Nat}{a:Int}{b:List Int}(h:p[i]? = some (a,some b)):(Z5 p)[i]? = some (.agg [.int .i64 a,.bool false,.isl 1 (bys b)]):=by simp [Z5,looR,h]
theorem Wu{p:PL}{i:Nat}{a:Int}(h:p[i]? = some (a,none)):(Z5 p)[i]? = some (.agg [.int .i64 a,.bool true,.nils]):=by simp [Z5,looR,h]
def hitP(a:Int)(x:Int × Option (List Int)):Bool:=decide (x.1=a)&&x.2.isSome
theorem taken_loop(n:Nat)(rm:Int)(m:ML)(p:PL)(hp:p.length<=1000)(a:Int):∀ (q:PL) (k fu:Nat),p.drop k=q->k<=p.length->q.length<fu ->
  (q.any (hitP a)=true->∃ i w,Z2 prog C0 (n+20) 66 0 0 fu (taE a k) (rS rm m p)=some (.ret,taH rm m p a i w,rS rm m p)) /\
  (q.any (hitP a)=false->Z2 prog C0 (n+20) 66 0 0 fu (taE a k) (rS rm m p)=some (.exit 0,taX rm m p a p.length,rS rm m p))
 | [],k,fu,hd,hk,hf=>by
  obtain ⟨fu,rfl⟩:∃ q,fu=q+1:=⟨fu-1,by omega⟩
  have:p.length<=k:=by simpa using hd
  obtain rfl:k=p.length:=by omega
  exact ⟨fun h=>by simp at h,fun _=>ta_end n fu rm m p hp a _ (by omega)⟩
 | (c,o)::q,k,fu,hd,hk,hf=>by
  obtain ⟨fu,rfl⟩:∃ q,fu=q+1:=⟨fu-1,by simp at hf;omega⟩
  obtain ⟨hx,hlt,hd2⟩:=drop_head hd;obtain ⟨i1,i2⟩:=taken_loop n rm m p hp a q (k+1) fu hd2 (by omega) (by simp at hf;omega)
  rw [List.any_cons]
  cases o with
  | none =>
   have hh:hitP a (c,none)=false:=by simp [hitP]
   rw [hh,Bool.false_or];have hx2:=Wu hx
   by_cases h:c=a
   ·subst h
    have st:=ta_step2 n fu rm m p hp c (k:Int) (by omega) (by omega) _ hx2
    exact ⟨fun h=>by obtain ⟨i,w,hi⟩:=i1 h;exact ⟨i,w,st _ hi⟩,fun h=>st _ (i2 h)⟩
   ·have st:=ta_step1 n fu rm m p hp a (k:Int) (by omega) (by omega) c _ _ hx2 h
    exact ⟨fun h=>by obtain ⟨i,w,hi⟩:=i1 h;exact ⟨i,w,st _ hi⟩,fun h=>st _ (i2 h)⟩
  | some b =>
   have hx2:=Xg hx
   by_cases h:c=a
   ·subst h
    have hh:hitP c (c,some b)=true:=by simp [hitP]
    rw [hh,Bool.true_or];exact ⟨fun _=>⟨(k:Int),_,ta_hit n fu rm m p hp c (k:Int) (by omega) (by omega) _ hx2⟩,fun h=>by simp at h⟩
   ·have hh:hitP a (c,some b)=false:=by simp [hitP,h]
    rw [hh,Bool.false_or];have st:=ta_step1 n fu rm m p hp a (k:Int) (by omega) (by omega) c _ _ hx2 h
    exact ⟨fun h=>by obtain ⟨i,w,hi⟩:=i1 h;exact ⟨i,w,st _ hi⟩,fun h=>st _ (i2 h)⟩
theorem any_hit(a:Int)(p:PL):p.any (hitP a)=true↔∃ b,(a,some b)∈p:=by
 rw [List.any_eq_true]
 constructor
 ·rintro ⟨⟨c,o⟩,hx,h⟩
  simp only [hitP,Bool.and_eq_true,decide_eq_true_eq] at h;obtain ⟨h1,h2⟩:=h
  obtain ⟨b,rfl⟩:=Option.isSome_iff_exists.1 h2;subst h1;exact ⟨b,hx⟩
 ·rintro ⟨b,hx⟩
  exact ⟨_,hx,by simp [hitP]⟩
theorem taken_any(n:Nat)(rm:Int)(m:ML)(p:PL)(hp:p.length<=1000)(hm:m.length<=500)(a:Int)(hn:100<n)(hn2:p.length<n+40):
  Z6 prog C0 (Z3 prog C0 (n+40)) (n+40) 66 [rR rm m p,.int .i64 a] ⟨0,[]⟩=some (.bool (decide (a∈Zw (Zt m p))),⟨0,[]⟩):=by
 have Fd:=fun j (hj:100<j+20)=>find_c0 (j+20) m a hm
 obtain ⟨h1,h2⟩:=taken_loop (n+20) rm m p hp a p 0 (n+40) rfl (by omega) hn2
 unfold findV at Fd
 cases hg:mget m a with
 | some b =>
  rw [hg] at Fd;have:a∈Zw (Zt m p):=by rw [Y6];exact .inl ((Xe a m).1 (by rw [hg];rfl))
  rw [decide_eq_true this];exact taken_there n rm m p hp (by omega) a b hn Fd
 | none =>
  rw [hg] at Fd;have hk:a∉Zn m:=fun q=>by have:=(Xe a m).2 q;rw [hg] at this;simp at this
  cases hq:p.any (hitP a) with
  | true =>
   obtain ⟨i,w,hi⟩:=h1 hq;have:a∈Zw (Zt m p):=by rw [Y6];exact .inr ((any_hit a p).1 hq)
   rw [decide_eq_true this];exact taken_hit n rm m p hp (by omega) a i w hn Fd hi
  | false =>
   have:a∉Zw (Zt m p):=by
    rw [Y6];rintro (q | q)
    ·exact hk q
    ·rw [(any_hit a p).2 q] at hq;simp at hq
   rw [decide_eq_false this];exact taken_none n rm m p hp (by omega) a hn Fd (h2 hq)
theorem lastW_snoc(a c:Int)(o:Option (List Int)):∀ p,lastW a (p++[(c,o)])=if c=a then some o else lastW a p
 | []=>by simp [lastW]
 | (k,v)::p=>by
  have ih:=lastW_snoc a c o p;simp only [List.cons_append,lastW,ih]
  by_cases h:c=a
  ·simp [h]
  ·simp only [if_neg h]
theorem read_loop(n:Nat)(rm:Int)(m:ML)(p:PL)(hp:p.length<=1000)(h64:ok64 p)(a:Int)(hn:100<n):∀ (k fu:Nat),k<=p.length->k<fu ->
  (∀ b,lastW a (p.take k)=some (some b)->∃ i,Z2 prog C0 (n+40) 50 0 0 fu (reE a ((k:Int)-1)) (rS2 rm m p)=some (.ret,reH p a i b false,rS2 rm m p)) /\
  (lastW a (p.take k)=some none->∃ i,Z2 prog C0 (n+40) 50 0 0 fu (reE a ((k:Int)-1)) (rS2 rm m p)=some (.ret,reN p a i true,rS2 rm m p)) /\
  (lastW a (p.take k)=none->Z2 prog C0 (n+40) 50 0 0 fu (reE a ((k:Int)-1)) (rS2 rm m p)=some (.exit 0,reX a,rS2 rm m p))
 | 0,fu,hk,hf=>by
  obtain ⟨fu,rfl⟩:∃ q,fu=q+1:=⟨fu-1,by omega⟩
  exact ⟨fun b h=>by simp [lastW] at h,fun h=>by simp [lastW] at h,fun _=>re_end n fu rm m p hp a⟩
 | k+1,fu,hk,hf=>by
  obtain ⟨fu,rfl⟩:∃ q,fu=q+1:=⟨fu-1,by omega⟩
  have hlt:k<p.length:=by omega
  have hx:p[k]? = some p[k]:=List.getElem?_eq_getElem hlt;have ht:p.take (k+1)=p.take k++[p[k]]:=List.take_succ_eq_append_getElem hlt;obtain ⟨i1,i2,i3⟩:=read_loop n rm m p hp h64 a hn k fu (by omega) (by omega)
  rw [ht];have e:((k+1:Nat):Int)-1=k:=by omega
  rw [e];have hmem:=List.getElem_mem hlt;generalize p[k]=x at hx hmem;obtain ⟨c,o⟩:=x
  rw [lastW_snoc]
  by_cases h:c=a
  ·subst h
   rw [if_pos rfl]
   cases o with
   | some b =>
    have hb:=h64 _ hmem b rfl;refine ⟨fun d hd=>?_,fun hd=>by simp at hd,fun hd=>by simp at hd⟩
    simp only [Option.some.injEq] at hd;subst hd;exact ⟨(k:Int),re_hitS n fu rm m p hp c (k:Int) (by omega) (by omega) b (by omega) false (Xg hx) hn⟩
   | none =>
    exact ⟨fun d hd=>by simp at hd,fun _=>⟨(k:Int),re_hitN n fu rm m p hp c (k:Int) (by omega) (by omega) true (Wu hx) hn⟩,fun hd=>by simp at hd⟩
  ·rw [if_neg h]
   obtain ⟨v,w,hx2⟩:∃ v w,(Z5 p)[(k:Int).toNat]? = some (.agg [.int .i64 c,.bool v,w]):=by
    cases o with
    | some b=>exact ⟨_,_,Xg hx⟩
    | none=>exact ⟨_,_,Wu hx⟩
   have st:=re_step n fu rm m p hp a (k:Int) (by omega) (by omega) c v w hx2 h
   exact ⟨fun d hd=>by obtain ⟨i,hi⟩:=i1 d hd;exact ⟨i,st _ hi⟩,fun hd=>by obtain ⟨i,hi⟩:=i2 hd;exact ⟨i,st _ hi⟩,fun hd=>st _ (i3 hd)⟩
theorem blk_nil:blk []=List.replicate 64 0:=by rw [<- blk_padS];simp
theorem read_any(n:Nat)(rm:Int)(m:ML)(p:PL)(hp:p.length<=1000)(hm:m.length<=500)(h64:ok64 p)(hm64:∀ x∈m,x.2.length=64)(a:Int)(h0:0<=a)(h1:a<=1073741824)(hn:100<n)(hn2:p.length<n+40):
  Z6 prog C0 (Z3 prog C0 (n+40)) (n+40) 50 [rR rm m p,.int .i64 a] ⟨0,[]⟩=some (.tup [.isl 1 (bys (rd m p a)),.int .i64 0],⟨0,[]⟩):=by
 have Fd:=fun j (hj:100<j+20)=>find_c0 (j+20) m a hm
 unfold findV at Fd;obtain ⟨i1,i2,i3⟩:=read_loop n rm m p hp h64 a hn p.length (n+40) (Nat.le_refl _) hn2;rw [List.take_length] at i1 i2 i3;unfold rd
 cases hl:lastW a p with
 | some o =>
  cases o with
  | some b =>
   obtain ⟨i,hi⟩:=i1 b hl;exact read_hitS n rm m p hp (by omega) a i h0 h1 b false hi
  | none =>
   obtain ⟨i,hi⟩:=i2 hl;simp only;rw [blk_nil];exact read_hitN n rm m p hp (by omega) a i h0 h1 true hi
 | none =>
  simp only
  cases hg:mget m a with
  | some b =>
   rw [hg] at Fd;have hb:b.length=64:=by
    have:∀ m:ML,mget m a=some b->∃ x∈m,x.2=b:=by
     intro m
     induction m with
     | nil=>simp [mget]
     | cons y m ih =>
      obtain ⟨k,v⟩:=y
      simp only [mget]
      split
      ·intro h;injection h with h;exact ⟨(k,v),by simp,h⟩
      ·intro h;obtain ⟨x,h1,h2⟩:=ih h;exact ⟨x,by simp [h1],h2⟩
    obtain ⟨x,q1,q2⟩:=this m hg;rw [<- q2];exact hm64 x q1
   exact read_cell n rm m p hp (by omega) a h0 h1 (i3 hl) hn b (by omega) Fd
  | none =>
   rw [hg] at Fd;simp only;rw [blk_nil];exact read_none n rm m p hp (by omega) a h0 h1 (i3 hl) hn Fd
theorem cellsR_loop(n:Nat)(m:ML)(hm:m.length<=1000000)(h64:∀ x∈m,x.2.length=64)(hn:100<n):∀ (q:ML) (k fu:Nat),m.drop k=q->k<=m.length->q.length<fu ->
  Z2 prog C0 (n+40) 21 0 0 fu (ceE2 m m k) ⟨0,[]⟩=some (.exit 0,ceX2 m m m.length,⟨0,[]⟩)
 | [],k,fu,hd,hk,hf=>by
  obtain ⟨fu,rfl⟩:∃ q,fu=q+1:=⟨fu-1,by omega⟩
  have:m.length<=k:=by simpa using hd
  obtain rfl:k=m.length:=by omega
  exact ce_end n fu m m hm rfl _ (by omega)
 | (c,v)::q,k,fu,hd,hk,hf=>by
  obtain ⟨fu,rfl⟩:∃ q,fu=q+1:=⟨fu-1,by simp at hf;omega⟩
  obtain ⟨hx,hlt,hd2⟩:=drop_head hd;have hv:=h64 _ (List.mem_of_getElem? hx);exact ce_step n fu m m hm rfl (k:Int) (by omega) (by omega) c v (Wy hx) (Wy hx) hn (fun j hj=>by have:=same_any j v v (by simp at hv;omega) (by simp at hv;omega) (by simp at hv;omega);simpa using this) _ (cellsR_loop n m hm h64 hn q (k+1) fu hd2 (by omega) (by simp at hf;omega))
theorem cells_any(n:Nat)(m:ML)(hm:m.length<=1000000)(h64:∀ x∈m,x.2.length=64)(hn:100<n)(hn2:m.length<n+40):
  Z6 prog C0 (Z3 prog C0 (n+40)) (n+40) 21 [.isl 2 (Z1 m),.isl 2 (Z1 m)] ⟨0,[]⟩=some (.bool true,⟨0,[]⟩):=
 cells_same n m m hm rfl (cellsR_loop n m hm h64 hn m 0 (n+40) rfl (by omega) hn2)
theorem mdel_none(a:Int):∀ m:ML,a∉Zn m->mdel m a=m
 | [],_=>rfl
 | (c,v)::m,h=>by
  have h1:¬ c=a:=fun e=>h (by simp [Zn,e])
  have h2:a∉Zn m:=fun e=>h (by simp only [Zn,List.map_cons,List.mem_cons];exact .inr e)
  simp only [mdel];rw [if_neg h1,mdel_none a m h2]
theorem pf_loopR(n:Nat)(m:ML)(hm:m.length<=50000)(ha:Asc m)(a:Int):∀ (q:ML) (k fu:Nat) (o:ML),m.drop k=q->k<=m.length->q.length<fu->0<o.length->o.length<=k ->
  Z2 prog Ck (n+40) 59 0 0 fu (puE m (.sl 2 1 0 o.length none) true k) (puS a true .nils o)=some (.exit 0,puX m (.sl 2 1 0 (o++mdel q a).length none) true m.length,puS a true .nils (o++mdel q a))
 | [],k,fu,o,hd,hk,hf,h0,ho=>by
  obtain ⟨fu,rfl⟩:∃ q,fu=q+1:=⟨fu-1,by omega⟩
  have:m.length<=k:=by simpa using hd
  obtain rfl:k=m.length:=by omega
  simp only [mdel,List.append_nil];exact pf_endR n fu m (by omega) o (by omega) h0 a _ (by omega)
 | (c,v)::q,k,fu,o,hd,hk,hf,h0,ho=>by
  obtain ⟨fu,rfl⟩:∃ q,fu=q+1:=⟨fu-1,by simp at hf;omega⟩
  obtain ⟨hx,hlt,hd2⟩:=drop_head hd;have hA:Asc ((c,v)::q):=by rw [<- hd];exact asc_drop ha k
  by_cases h:c=a
  ·have hn:a∉Zn q:=fun e=>by have:=Asc.lt hA a e;simp only at this;omega
   have ih:=pf_loopR n m hm ha a q (k+1) fu o hd2 (by omega) (by simp at hf;omega) h0 (by omega)
   rw [mdel_none a q hn] at ih;have e:mdel ((c,v)::q) a=q:=by simp [mdel,h]
   rw [e];exact pf_eqR n fu m (by omega) o (by omega) h0 a (k:Int) (by omega) (by omega) c v (Wy hx) h _ ih
  ·have ih:=pf_loopR n m hm ha a q (k+1) fu (o++[(c,v)]) hd2 (by omega) (by simp at hf;omega) (by simp) (by simp;omega)
   rw [ov_len,List.append_assoc] at ih;have e:mdel ((c,v)::q) a=(c,v)::mdel q a:=by simp [mdel,h]
   rw [e];exact pf_keepR n fu m (by omega) o (by omega) h0 a (k:Int) (by omega) (by omega) c v (Wy hx) h _ ih
theorem putf_ck(n:Nat)(m:ML)(hm:m.length<=50000)(ha:Asc m)(a:Int)(hn:m.length<n+40):
  Z6 prog Ck (Z3 prog Ck (n+40)) (n+40) 59 [.isl 2 (Z1 m),.agg [.int .i64 a,.bool true,.nils]] ⟨0,[]⟩=some (.isl 2 (Z1 (mdel m a)),⟨0,[]⟩):=by
 match m,hm,ha,hn with
 | [],hm,ha,hn=>exact pf_thruN n [] (by simp) a (pf_endN n (n+39) [] (by simp) a 0 (by simp))
 | (c,v)::q,hm,ha,hn =>
  have hx:(Z1 ((c,v)::q))[(0:Int).toNat]? = some (.agg [.int .i64 c,.isl 1 (bys v)]):=rfl;have hl:((c,v)::q).length<=100000:=by omega
  simp only [List.length_cons] at hm hn
  by_cases h:c=a
  ·have hn2:a∉Zn q:=fun e=>by have:=Asc.lt ha a e;simp only at this;omega
   have e:mdel ((c,v)::q) a=q:=by simp [mdel,h]
   rw [e]
   match q,hl,hx,hn2,ha,hm,hn with
   | [],hl,hx,hn2,ha,hm,hn =>
    exact pf_thruN n _ hl a (pf_eqN n (n+39) _ hl a 0 (by omega) (by simp) c v hx h _ (pf_endN n (n+38) _ hl a 1 (by simp)))
   | (d,w)::q,hl,hx,hn2,ha,hm,hn =>
    have hx2:(Z1 ((c,v)::(d,w)::q))[(1:Int).toNat]? = some (.agg [.int .i64 d,.isl 1 (bys w)]):=rfl;have hd:¬ d=a:=fun e=>hn2 (by simp [Zn,e])
    have hq:a∉Zn q:=fun e=>hn2 (by simp only [Zn,List.map_cons,List.mem_cons];exact .inr e)
    have R:=pf_loopR n ((c,v)::(d,w)::q) (by simp;simp at hm;omega) ha a q 2 (n+38) [(d,w)] rfl (by simp only [List.length_cons];omega) (by simp at hn;omega) (by simp) (by simp)
    rw [mdel_none a q hq] at R;exact pf_thruR n _ hl ((d,w)::q) (by simp at hm ⊢;omega) (by simp) a (pf_eqN n (n+39) _ hl a 0 (by omega) (by simp;omega) c v hx h _ (pf_keepN n (n+38) _ hl a 1 (by omega) (by simp;omega) d w hx2 hd _ R))
  ·have R:=pf_loopR n ((c,v)::q) (by simp;omega) ha a q 1 (n+39) [(c,v)] rfl (by simp) (by omega) (by simp) (by simp)
   have e:mdel ((c,v)::q) a=(c,v)::mdel q a:=by simp [mdel,h]
   rw [e];have hle:(mdel q a).length<=q.length:=(mdel_sub a q).length_le;exact pf_thruR n _ hl ((c,v)::mdel q a) (by simp;omega) (by simp) a (pf_keepN n (n+39) _ hl a 0 (by omega) (by simp) c v hx h _ R)
theorem put_c0S(n:Nat)(m:ML)(hm:m.length<=500)(ha:Asc m)(a:Int)(b:List Int):
  Z6 prog C0 (Z3 prog C0 n) n 59 [.isl 2 (Z1 m),.agg [.int .i64 a,.bool false,.isl 1 (bys b)]] ⟨0,[]⟩=some (.isl 2 (Z1 (W6 m a b)),⟨0,[]⟩):=
 x_runx (C:=C0) (G:=via 59) rfl (lcall_nil («as»:=[.isl 2 (Z1 m),.agg [.int .i64 a,.bool false,.isl 1 (bys b)]]) rfl (put_ck 559 m (by omega) ha a b (by omega))) (by kernel_rfl)
theorem put_c0N(n:Nat)(m:ML)(hm:m.length<=500)(ha:Asc m)(a:Int):
  Z6 prog C0 (Z3 prog C0 n) n 59 [.isl 2 (Z1 m),.agg [.int .i64 a,.bool true,.nils]] ⟨0,[]⟩=some (.isl 2 (Z1 (mdel m a)),⟨0,[]⟩):=
 x_runx (C:=C0) (G:=via 59) rfl (lcall_nil («as»:=[.isl 2 (Z1 m),.agg [.int .i64 a,.bool true,.nils]]) rfl (putf_ck 559 m (by omega) ha a (by omega))) (by kernel_rfl)
theorem mput2_len(m:ML)(a:Int)(b:List Int):(W6 m a b).length<=m.length+1:=by
 have h1:∀ m:ML,(mset m a b).length=m.length:=by
  intro m
  induction m with
  | nil=>rfl
  | cons x m ih=>obtain ⟨k,v⟩:=x;simp only [mset];split <;> simp [ih]
 have h2:∀ m:ML,(mins m a b).length=m.length+1:=by
  intro m
  induction m with
  | nil=>rfl
  | cons x m ih=>obtain ⟨k,v⟩:=x;simp only [mins];split <;> simp [ih]
 unfold W6
 split
 ·rw [h1];omega
 ·rw [h2];exact Nat.le_refl _
theorem sync_loop(n:Nat)(rm:Int)(m:ML)(p:PL)(hp:p.length<=100)(hm:m.length<=100)(hn:200<n):∀ (q:PL) (k fu:Nat) (c:ML),p.drop k=q->k<=p.length->q.length<fu->Asc c->c.length<=m.length+k ->
  Z2 prog C0 (n+60) 30 0 0 fu (syE k) (syS rm m p c)=some (.exit 0,syX p p.length,syS rm m p (applyM q c))
 | [],k,fu,c,hd,hk,hf,hA,hc=>by
  obtain ⟨fu,rfl⟩:∃ q,fu=q+1:=⟨fu-1,by omega⟩
  have:p.length<=k:=by simpa using hd
  obtain rfl:k=p.length:=by omega
  exact sy_end n fu rm m p (by omega) (by omega) c _ (by omega)
 | (a,o)::q,k,fu,c,hd,hk,hf,hA,hc=>by
  obtain ⟨fu,rfl⟩:∃ q,fu=q+1:=⟨fu-1,by simp at hf;omega⟩
  obtain ⟨hx,hlt,hd2⟩:=drop_head hd
  cases o with
  | some b =>
   have hl:=mput2_len c a b;exact sy_stepS n fu rm m p (by omega) (by omega) c _ (k:Int) (by omega) (by omega) a b (Xg hx) (fun j hj=>put_c0S (j+40) c (by omega) hA a b) hn _ (sync_loop n rm m p hp hm hn q (k+1) fu _ hd2 (by omega) (by simp at hf;omega) (mput2_asc hA a b) (by omega))
  | none =>
   have hl:(mdel c a).length<=c.length:=(mdel_sub a c).length_le;exact sy_stepN n fu rm m p (by omega) (by omega) c _ (k:Int) (by omega) (by omega) a (Wu hx) (fun j hj=>put_c0N (j+40) c (by omega) hA a) hn _ (sync_loop n rm m p hp hm hn q (k+1) fu _ hd2 (by omega) (by simp at hf;omega) (mdel_asc hA a) (by omega))
theorem sync_ref(n:Nat)(rm:Int)(m:ML)(p:PL)(hp:p.length<=100)(hm:m.length<=100)(hA:Asc m)(hn:200<n):
  Z6 prog C0 (Z3 prog C0 (n+60)) (n+60) 30 [rR rm m p] ⟨0,[]⟩=some (rR rm (applyM p m) [],⟨0,[]⟩):=
 sy_thru n rm m p (by omega) (by omega) _ (sync_loop n rm m p hp hm hn p 0 (n+60) m rfl (by omega) (by omega) hA (by omega))
theorem needs_plus(m:ML)(p:PL)(a:Int)(b:List Int)(h:a∉Zw (Zt m p)):(Zt m (p++[(a,some b)])).length=(Zt m p).length+1:=by
 refine Nat.le_antisymm (needs_more m p a b) ?_
 rw [Xc,Xc];have:=sub_len (l:=a::Zw (Zt m p)) (k:=Zw (Zt m (p++[(a,some b)]))) (List.nodup_cons.2 ⟨h,needs_nodup m p⟩) (fun x hx=>by
  rw [Y6]
  rcases List.mem_cons.1 hx with rfl | hx
  ·exact .inr ⟨b,by simp⟩
  ·rw [Y6] at hx
   rcases hx with hx | ⟨c,hx⟩
   ·exact .inl hx
   ·exact .inr ⟨c,by simp [hx]⟩)
 simpa using this
theorem used_inner(n:Nat)(rm:Int)(m:ML)(p:PL)(hp:p.length<=1000)(hm:m.length<=1000000)(u:Int)(i:Nat)(hi:i<p.length)(a:Int)(b:List Int):∀ (j k fu:Nat) (f:Bool),k+j=i->j<fu ->
  Z2 prog C0 (n+40) 67 1 0 fu (uiE u i f k) (uiS rm m p a b)=some (.exit 2,uiX u i (f&&!((p.take i).drop k).any (hitP a)) i,uiS rm m p a b)
 | 0,k,fu,f,hk,hf=>by
  obtain ⟨fu,rfl⟩:∃ q,fu=q+1:=⟨fu-1,by omega⟩
  obtain rfl:k=i:=by omega
  rw [List.drop_of_length_le (by rw [List.length_take];omega)]
  simp only [List.any_nil,Bool.not_false,Bool.and_true];exact ui_end n fu rm m p hp hm u k (by omega) a b f k (by omega)
 | j+1,k,fu,f,hk,hf=>by
  obtain ⟨fu,rfl⟩:∃ q,fu=q+1:=⟨fu-1,by omega⟩
  have hlt:k<p.length:=by omega
  have hx:p[k]? = some p[k]:=List.getElem?_eq_getElem hlt;have hd:(p.take i).drop k=p[k]::(p.take i).drop (k+1):=by
   rw [List.drop_eq_getElem_cons (by rw [List.length_take];omega)]
   simp
  rw [hd,List.any_cons];generalize p[k]=x at hx;obtain ⟨c,o⟩:=x
  have ih:=fun f=>used_inner n rm m p hp hm u i hi a b j (k+1) fu f (by omega) (by omega)
  by_cases h:c=a
  ·subst h
   cases o with
   | some w =>
    have hh:hitP c (c,some w)=true:=by simp [hitP]
    have I:=ih false;rw [Bool.false_and] at I;rw [hh,Bool.true_or,Bool.not_true,Bool.and_false];exact ui_hit n fu rm m p hp hm u i (by omega) c b f (k:Int) (by omega) (by omega) _ (Xg hx) _ I
   | none =>
    have hh:hitP c (c,none)=false:=by simp [hitP]
    rw [hh,Bool.false_or];exact ui_free n fu rm m p hp hm u i (by omega) c b f (k:Int) (by omega) (by omega) _ (Wu hx) _ (ih f)
  ·have hh:hitP a (c,o)=false:=by simp [hitP,h]
   rw [hh,Bool.false_or];obtain ⟨v,w,hx2⟩:∃ v w,(Z5 p)[(k:Int).toNat]? = some (.agg [.int .i64 c,.bool v,w]):=by
    cases o with
    | some b=>exact ⟨_,_,Xg hx⟩
    | none=>exact ⟨_,_,Wu hx⟩
   exact ui_miss n fu rm m p hp hm u i (by omega) a b f (k:Int) (by omega) (by omega) c h v w hx2 _ (ih f)
theorem used_loop(n:Nat)(rm:Int)(m:ML)(p:PL)(hp:p.length<=100)(hm:m.length<=100)(hn:200<n):∀ (j i fu:Nat),i+j=p.length->j<fu ->
  Z2 prog C0 (n+40) 67 0 0 fu (usE (Zt m (p.take i)).length i) (rS rm m p)=some (.exit 0,usX rm m p (Zt m p).length p.length,rS rm m p)
 | 0,i,fu,hi,hf=>by
  obtain ⟨fu,rfl⟩:∃ q,fu=q+1:=⟨fu-1,by omega⟩
  obtain rfl:i=p.length:=by omega
  rw [List.take_length];exact us_end n fu rm m p (by omega) (by omega) _ _ (by omega)
 | j+1,i,fu,hi,hf=>by
  obtain ⟨fu,rfl⟩:∃ q,fu=q+1:=⟨fu-1,by omega⟩
  have hlt:i<p.length:=by omega
  have hx:p[i]? = some p[i]:=List.getElem?_eq_getElem hlt;have ht:p.take (i+1)=p.take i++[p[i]]:=List.take_succ_eq_append_getElem hlt;have ih:=used_loop n rm m p hp hm hn j (i+1) fu (by omega) (by omega)
  rw [ht] at ih;generalize p[i]=x at hx ih;obtain ⟨a,o⟩:=x
  have Fd:=fun j (hj:100<j+20)=>find_c0 (j+20) m a (by omega)
  unfold findV at Fd
  cases o with
  | none =>
   rw [needs_free] at ih;exact us_free n fu rm m p (by omega) (by omega) _ (i:Int) (by omega) (by omega) a _ _ (Wu hx) Fd (by omega) _ ih
  | some b =>
   cases hg:mget m a with
   | some v =>
    rw [hg] at Fd;have hk:a∈Zw (Zt m (p.take i)):=by rw [Y6];exact .inl ((Xe a m).1 (by rw [hg];rfl))
    rw [needs_same m _ a b hk] at ih;exact us_there n fu rm m p (by omega) (by omega) _ (i:Int) (by omega) (by omega) a b _ (Xg hx) Fd (by omega) _ ih
   | none =>
    rw [hg] at Fd;have hk:a∉Zn m:=fun q=>by have:=(Xe a m).2 q;rw [hg] at this;simp at this
    have I:=used_inner n rm m p (by omega) (by omega) ((Zt m (p.take i)).length:Int) i hlt a b i 0 (n+40) true (by omega) (by omega)
    rw [List.drop_zero,Bool.true_and] at I
    cases hq:(p.take i).any (hitP a) with
    | true =>
     rw [hq] at I;have hk:a∈Zw (Zt m (p.take i)):=by rw [Y6];exact .inr ((any_hit a _).1 hq)
     rw [needs_same m _ a b hk] at ih;exact us_again n fu rm m p (by omega) (by omega) _ (i:Int) (by omega) (by omega) a b _ (Xg hx) Fd (by omega) I _ ih
    | false =>
     rw [hq] at I;have hk:a∉Zw (Zt m (p.take i)):=by
      rw [Y6];rintro (q | q)
      ·exact hk q
      ·rw [(any_hit a _).2 q] at hq;simp at hq
     rw [needs_plus m _ a b hk] at ih;have hub:(Zt m (p.take i)).length<=1000:=by
      have h1:(Zt m (p.take i)).length<=m.length+i:=by
       have:∀ k,k<=p.length->(Zt m (p.take k)).length<=(Zt m []).length+k:=by
        intro k
        induction k with
        | zero=>intro _;simp
        | succ k ihk =>
         intro hk;have hlt2:k<p.length:=by omega
         rw [List.take_succ_eq_append_getElem hlt2];have:=ihk (by omega)
         obtain ⟨c,o⟩:=p[k]
         cases o with
         | none=>rw [needs_free];omega
         | some w=>have:=needs_more m (p.take k) c w;omega
       have h2:=this i (by omega)
       have h3:(Zt m []).length<=m.length:=by
        rw [Xc,show m.length=(Zn m).length by simp [Zn]]
        exact sub_len (needs_nodup m []) (fun x hx=>by rw [Y6] at hx;simpa using hx)
       omega
      omega
     exact us_new n fu rm m p (by omega) (by omega) _ (i:Int) (by omega) (by omega) (by omega) (by omega) a b _ (Xg hx) Fd (by omega) I _ (by simpa using ih)
theorem used_ref(n:Nat)(rm:Int)(m:ML)(p:PL)(hp:p.length<=100)(hm:m.length<=100)(hA:Asc m)(hn:200<n):
  Z6 prog C0 (Z3 prog C0 (n+40)) (n+40) 67 [rR rm m p] ⟨0,[]⟩=some (.int .i64 (Zt m p).length,⟨0,[]⟩):=by
 have L:=used_loop n rm m p hp hm hn p.length 0 (n+40) (by omega) (by omega)
 rw [List.take_zero,needs_of m hA] at L;exact us_thru n rm m p (by omega) (by omega) _ L
theorem and_some(n:Nat)(rm:Int)(m:ML)(p:PL)(hp:p.length<=1000)(hm:m.length<=1000000)(a:Int)(b:List Int):
  Z6 prog C0 (Z3 prog C0 (n+40)) (n+40) 68 [rR rm m p,.agg [.int .i64 a,.bool false,.isl 1 (bys b)]] ⟨0,[]⟩=some (rR rm m (p++[(a,some b)]),⟨0,[]⟩):=by
 cases p with
 | nil=>exact and_some0 n rm m hm a b
 | cons x p=>exact and_someP n rm m (x::p) hp hm a b (by simp)
theorem rput_full(n:Nat)(rm:Int)(m:ML)(p:PL)(a:Int)(b:List Int)(h0:0<=a)(h1:a<=1073741824)(hb:b.length<=64)(u:Int)(hu:rm<=u)(hn:300<n)(T:∀ j,200<j->Z6 prog C0 (Z3 prog C0 (j+40)) (j+40) 66 [rR rm m p,.int .i64 a] ⟨0,[]⟩=some (.bool false,⟨0,[]⟩))(U:∀ j,200<j->Z6 prog C0 (Z3 prog C0 (j+40)) (j+40) 67 [rR rm m p] ⟨0,[]⟩=some (.int .i64 u,⟨0,[]⟩)):
  Z6 prog C0 (Z3 prog C0 (n+100)) (n+100) 26 [rR rm m p,.int .i64 a,.isl 1 (bys b)] ⟨0,[]⟩=some (.tup [rR rm m p,.int .i64 7],⟨0,[]⟩):=by
 have f1:decide (0<=a)=true:=by simp;omega
 have f2:LV.bool (if decide (0<=a)=true then decide (a<=1073741824) else false)=LV.bool true:=by simp;omega
 have f3:Z6 prog C0 (Z3 prog C0 (n+99)) (n+99) 65 [.int i64 a] (St.mk 0 [])=some (LV.bool true,St.mk 0 []):=drn (fun h=>ai (congrArg some f1)<|ai (congrArg some f1)<|ai (f2)<|h) (.s (.a) (.s (.r [.a,.a,.a,.g true (.a),.g true (.a),.v (vOf f2) (.a)]) (.a))) [] .a (by kernel_rfl)
 have f4:decide (64<((bys b).length:Int))=false:=by simp;omega
 have f5:=T (n+59) (by omega)
 have f6:=U (n+59) (by omega)
 have f7:LV.bool (if true=true then decide (rm<=u) else false)=LV.bool true:=by simp;omega
 exact drn (fun h=>ai (f3)<|ai (congrArg LV.bool f4)<|ai (f5)<|ai (f6)<|ai (f7)<|h) (.s (.a) (.s (.s (.r [.a,.f (rOf f3)]) (.a)) (.s (.s (.a) (.b false (.a))) (.s (.s (.d [] [.a,.a,.f (rOf f5),.a,.a,.a,.f (rOf f6),.a,.a] [] [.a,.v (vOf f7) (.a)]) (.a)) .a)))) [] .a (by kernel_rfl)
theorem rput_okT(n:Nat)(rm:Int)(m:ML)(p:PL)(hp:p.length<=1000)(hm:m.length<=1000000)(a:Int)(b:List Int)(h0:0<=a)(h1:a<=1073741824)(hb:b.length<=64)(hn:300<n)(T:∀ j,200<j->Z6 prog C0 (Z3 prog C0 (j+40)) (j+40) 66 [rR rm m p,.int .i64 a] ⟨0,[]⟩=some (.bool true,⟨0,[]⟩)):
  Z6 prog C0 (Z3 prog C0 (n+100)) (n+100) 26 [rR rm m p,.int .i64 a,.isl 1 (bys b)] ⟨0,[]⟩=some (.tup [rR rm m (p++[(a,some (blk b))]),.int .i64 0],⟨0,[]⟩):=by
 have f1:decide (0<=a)=true:=by simp;omega
 have f2:LV.bool (if decide (0<=a)=true then decide (a<=1073741824) else false)=LV.bool true:=by simp;omega
 have f3:Z6 prog C0 (Z3 prog C0 (n+99)) (n+99) 65 [.int i64 a] (St.mk 0 [])=some (LV.bool true,St.mk 0 []):=drn (fun h=>ai (congrArg some f1)<|ai (congrArg some f1)<|ai (f2)<|h) (.s (.a) (.s (.r [.a,.a,.a,.g true (.a),.g true (.a),.v (vOf f2) (.a)]) (.a))) [] .a (by kernel_rfl)
 have f4:decide (64<((bys b).length:Int))=false:=by simp;omega
 have f5:=T (n+59) (by omega)
 have f6:=pad_ok (n+79) b hb (by omega)
 have f7:=and_some (n+59) rm m p hp hm a (blk b);exact drn (fun h=>ai (f3)<|ai (congrArg LV.bool f4)<|ai (f5)<|ai (f6)<|ai (f7)<|h) (.s (.a) (.s (.s (.r [.a,.f (rOf f3)]) (.a)) (.s (.s (.a) (.b false (.a))) (.s (.s (.d [] [.a,.a,.f (rOf f5),.a,.a,.a,.a,.a,.a] [] []) (.a)) (.s (.d [] [.a,.a,.a,.f (rOf f6),.a] [] [.f (rOf f7)]) (.a)))))) [] .a (by kernel_rfl)
theorem rput_okF(n:Nat)(rm:Int)(m:ML)(p:PL)(hp:p.length<=1000)(hm:m.length<=1000000)(a:Int)(b:List Int)(h0:0<=a)(h1:a<=1073741824)(hb:b.length<=64)(u:Int)(hu:u<rm)(hn:300<n)(T:∀ j,200<j->Z6 prog C0 (Z3 prog C0 (j+40)) (j+40) 66 [rR rm m p,.int .i64 a] ⟨0,[]⟩=some (.bool false,⟨0,[]⟩))(U:∀ j,200<j->Z6 prog C0 (Z3 prog C0 (j+40)) (j+40) 67 [rR rm m p] ⟨0,[]⟩=some (.int .i64 u,⟨0,[]⟩)):
  Z6 prog C0 (Z3 prog C0 (n+100)) (n+100) 26 [rR rm m p,.int .i64 a,.isl 1 (bys b)] ⟨0,[]⟩=some (.tup [rR rm m (p++[(a,some (blk b))]),.int .i64 0],⟨0,[]⟩):=by
 have f1:decide (0<=a)=true:=by simp;omega
 have f2:LV.bool (if decide (0<=a)=true then decide (a<=1073741824) else false)=LV.bool true:=by simp;omega
 have f3:Z6 prog C0 (Z3 prog C0 (n+99)) (n+99) 65 [.int i64 a] (St.mk 0 [])=some (LV.bool true,St.mk 0 []):=drn (fun h=>ai (congrArg some f1)<|ai (congrArg some f1)<|ai (f2)<|h) (.s (.a) (.s (.r [.a,.a,.a,.g true (.a),.g true (.a),.v (vOf f2) (.a)]) (.a))) [] .a (by kernel_rfl)
 have f4:decide (64<((bys b).length:Int))=false:=by simp;omega
 have f5:=T (n+59) (by omega)
 have f6:=U (n+59) (by omega)
 have f7:LV.bool (if true=true then decide (rm<=u) else false)=LV.bool false:=by simp;omega
 have f8:=pad_ok (n+79) b hb (by omega)
 have f9:=and_some (n+59) rm m p hp hm a (blk b);exact drn (fun h=>ai (f3)<|ai (congrArg LV.bool f4)<|ai (f5)<|ai (f6)<|ai (f7)<|ai (f8)<|ai (f9)<|h) (.s (.a) (.s (.s (.r [.a,.f (rOf f3)]) (.a)) (.s (.s (.a) (.b false (.a))) (.s (.s (.d [] [.a,.a,.f (rOf f5),.a,.a,.a,.f (rOf f6),.a,.a] [] [.a,.v (vOf f7) (.a)]) (.a)) (.s (.d [] [.a,.a,.a,.f (rOf f8),.a] [] [.f (rOf f9)]) (.a)))))) [] .a (by kernel_rfl)
theorem rn_big0(n:Nat)(b:List Int)(hb:8<=b.length)(h0:16<atI b 0)(h1:atI b 0<256):Z6 prog C0 (Z3 prog C0 (n+20)) (n+20) 85 [.isl 1 (bys b)] ⟨0,[]⟩=some (.int .i64 0,⟨0,[]⟩):=by
 have f1:(bys b)[0]? = some (LV.int IntKind.u8 (atI b 0)):=by simp (disch:=omega)
 have f2:(0:Int)<=(0:Int)/\(0:Int)<((bys b).length:Int):=by simp;omega
 have f3:decide (16<atI b 0)=true:=by simp;omega
 exact drn (fun h=>ai (f2)<|ai (f1)<|ai (congrArg LV.bool f3)<|h) (.s (.a) (.s (.s (.r [.a,.e (rOf f1)]) (.b true (.a))) .a)) [] .a (by kernel_rfl)
abbrev rnE(b:List Int)(c i:Int):LEnv:=[.isl 1 (bys b),.any,.any,.int i64 c,.int i64 i,.any,.any,.any,.any,.any,.any,.any,.any,.any,.any,.any,.any,.any,.any,.any,.any,.any,.any,.any]
abbrev rnX(b:List Int)(c:Int):LEnv:=[.isl 1 (bys b),.any,.any,.int i64 c,.int i64 8,.any,.any,.any,.any,.int i64 8,.bool false,.any,.any,.any,.any,.any,.any,.any,.any,.any,.any,.any,.any,.any]
theorem rn_end(n fu:Nat)(b:List Int)(c:Int):Z2 prog C0 (n+20) 85 0 0 (fu+1) (rnE b c 8) ⟨0,[]⟩=some (.exit 0,rnX b c,⟨0,[]⟩):=by
 exact dlp (fun h=>h) (.a) (by kernel_rfl)
theorem rn_step(n fu:Nat)(b:List Int)(hb:8<=b.length)(c i:Int)(h0:0<=i)(h1:i<8)(c0:0<=c)(c1:c<36028797018963968)(a0:0<=atI b i.toNat)(a1:atI b i.toNat<256)(r:LX × LEnv × St)(hr:Z2 prog C0 (n+20) 85 0 0 fu (rnE b (c*256+atI b i.toNat) (i+1)) ⟨0,[]⟩=some r):
  Z2 prog C0 (n+20) 85 0 0 (fu+1) (rnE b c i) ⟨0,[]⟩=some r:=by
 have f1:decide (i<8)=true:=by simp;omega
 have f2:LV.int i64 (IntKind.wrap i64 (c*256))=LV.int i64 (c*256):=by simp (disch:=omega)
 have f3:(bys b)[i.toNat]? = some (LV.int IntKind.u8 (atI b (i.toNat))):=by simp (disch:=omega)
 have f4:0<=i/\i<((bys b).length:Int):=by simp;omega
 have f5:LV.int i64 (IntKind.wrap i64 (atI b (i.toNat)))=LV.int i64 (atI b (i.toNat)):=by simp (disch:=omega)
 have f6:LV.int i64 (IntKind.wrap i64 (c*256+atI b (i.toNat)))=LV.int i64 (c*256+atI b (i.toNat)):=by simp (disch:=omega)
 have f7:LV.int i64 (IntKind.wrap i64 (i+1))=LV.int i64 (i+1):=by simp (disch:=omega)
 have f8:=hr;exact dlp (fun h=>ai (congrArg LV.bool f1)<|ai (f2)<|ai (f4)<|ai (f3)<|ai (f5)<|ai (f6)<|ai (f7)<|ai (Eq.refl (Z9 f8))<|ai (f8)<|h) (.i (.s (.s (.a) (.b true (.a))) (.s (.k (.r [.a,.v (vOf f2) (.a),.a,.a,.e (rOf f3),.a,.v (vOf f5) (.a),.v (vOf f6) (.a)])) (.r [.a,.v (vOf f7) (.a)]))) (.h [] (eOf f8) (Zp f8) (rOf f8))) (by kernel_rfl)
theorem rn_le(n:Nat)(b:List Int)(hb:8<=b.length)(h0:atI b 0<=16)(b0:0<=atI b 0)(c:Int)(h:c<=1152921504606846976)(L:Z2 prog C0 (n+20) 85 0 0 (n+20) (rnE b 0 0) ⟨0,[]⟩=some (.exit 0,rnX b c,⟨0,[]⟩)):
  Z6 prog C0 (Z3 prog C0 (n+20)) (n+20) 85 [.isl 1 (bys b)] ⟨0,[]⟩=some (.int .i64 c,⟨0,[]⟩):=by
 have f1:(bys b)[0]? = some (LV.int IntKind.u8 (atI b 0)):=by simp (disch:=omega)
 have f2:(0:Int)<=(0:Int)/\(0:Int)<((bys b).length:Int):=by simp;omega
 have f3:decide (16<atI b 0)=false:=by simp;omega
 have f4:=L
 have f5:decide (1152921504606846976<c)=false:=by simp;omega
 exact drn (fun h=>ai (f2)<|ai (f1)<|ai (congrArg LV.bool f3)<|ai (Eq.refl (Z9 f4))<|ai (f4)<|ai (congrArg LV.bool f5)<|h) (.s (.a) (.s (.s (.r [.a,.e (rOf f1)]) (.b false (.a))) (.s (.a) (.s (.s (.a) (.k (.l (.h [] (eOf f4) (Zp f4) (rOf f4))))) (.s (.s (.a) (.b false (.a))) (.a)))))) [] .a (by kernel_rfl)
theorem rn_gt(n:Nat)(b:List Int)(hb:8<=b.length)(h0:atI b 0<=16)(b0:0<=atI b 0)(c:Int)(h:1152921504606846976<c)(L:Z2 prog C0 (n+20) 85 0 0 (n+20) (rnE b 0 0) ⟨0,[]⟩=some (.exit 0,rnX b c,⟨0,[]⟩)):
  Z6 prog C0 (Z3 prog C0 (n+20)) (n+20) 85 [.isl 1 (bys b)] ⟨0,[]⟩=some (.int .i64 0,⟨0,[]⟩):=by
 have f1:(bys b)[0]? = some (LV.int IntKind.u8 (atI b 0)):=by simp (disch:=omega)
 have f2:(0:Int)<=(0:Int)/\(0:Int)<((bys b).length:Int):=by simp;omega
 have f3:decide (16<atI b 0)=false:=by simp;omega
 have f4:=L
 have f5:decide (1152921504606846976<c)=true:=by simp;omega
 exact drn (fun h=>ai (f2)<|ai (f1)<|ai (congrArg LV.bool f3)<|ai (Eq.refl (Z9 f4))<|ai (f4)<|ai (congrArg LV.bool f5)<|h) (.s (.a) (.s (.s (.r [.a,.e (rOf f1)]) (.b false (.a))) (.s (.a) (.s (.s (.a) (.k (.l (.h [] (eOf f4) (Zp f4) (rOf f4))))) (.s (.s (.a) (.b true (.a))) .a))))) [] .a (by kernel_rfl)
theorem rn_any(n:Nat)(b:List Int)(hb:8<=b.length)(hB:byB b):Z6 prog C0 (Z3 prog C0 (n+20)) (n+20) 85 [.isl 1 (bys b)] ⟨0,[]⟩=some (.int .i64 (numB b),⟨0,[]⟩):=by
 have g0:=Yw hB 0;have g1:=Yw hB 1;have g2:=Yw hB 2;have g3:=Yw hB 3;have g4:=Yw hB 4;have g5:=Yw hB 5;have g6:=Yw hB 6;have g7:=Yw hB 7;unfold numB
 by_cases h0:atI b 0<=16
 ·have L:Z2 prog C0 (n+20) 85 0 0 (n+20) (rnE b 0 0) ⟨0,[]⟩=some (.exit 0,rnX b (numF b),⟨0,[]⟩):=by
   refine rn_step n _ b hb 0 0 (by omega) (by omega) (by omega) (by omega) g0.1 g0.2 _ ?_
   rw [show (0:Int)*256+atI b (0:Int).toNat=atI b 0 by simp]
   refine rn_step n _ b hb _ 1 (by omega) (by omega) (by omega) (by omega) g1.1 g1.2 _ ?_
   refine rn_step n _ b hb _ 2 (by omega) (by omega) (by have:=g1;simp;omega) (by have:=g1;simp;omega) g2.1 g2.2 _ ?_
   refine rn_step n _ b hb _ 3 (by omega) (by omega) (by simp;omega) (by simp;omega) g3.1 g3.2 _ ?_
   refine rn_step n _ b hb _ 4 (by omega) (by omega) (by simp;omega) (by simp;omega) g4.1 g4.2 _ ?_
   refine rn_step n _ b hb _ 5 (by omega) (by omega) (by simp;omega) (by simp;omega) g5.1 g5.2 _ ?_
   refine rn_step n _ b hb _ 6 (by omega) (by omega) (by simp;omega) (by simp;omega) g6.1 g6.2 _ ?_
   refine rn_step n _ b hb _ 7 (by omega) (by omega) (by simp;omega) (by simp;omega) g7.1 g7.2 _ ?_
   exact rn_end n _ b _
  by_cases h:1152921504606846976<numF b
  ·rw [if_pos h];exact rn_gt n b hb h0 g0.1 _ h L
  ·rw [if_neg h];exact rn_le n b hb h0 g0.1 _ (by omega) L
 ·rw [if_pos (by unfold numF;omega)]
  exact rn_big0 n b hb (by omega) g0.2
theorem zq8_6(a0:List Int):LV.isl 1 (List.drop 0 (List.take 8 (bys a0)))=LV.isl 1 (bys (List.take 8 a0)):=by simp
theorem zq8_7(a0:List Int):LV.isl 1 (List.drop 56 (List.take (Int.toNat (Option.getD none ((bys a0).length:Int))) (bys a0)))=LV.isl 1 (bys (List.drop 56 a0)):=by simp
theorem rr_ok(n:Nat)(b:List Int)(hb:b.length=64)(t:Int)(h4:0<=atI b 8)(h5:atI b 8<=47)(N:∀ k,Z6 prog C0 (Z3 prog C0 (k+20)) (k+20) 85 [.isl 1 (bys (b.take 8))] ⟨0,[]⟩=some (.int .i64 t,⟨0,[]⟩))(M:∀ k,Z6 prog C0 (Z3 prog C0 (k+20)) (k+20) 85 [.isl 1 (bys (b.drop 56))] ⟨0,[]⟩=some (.int .i64 t,⟨0,[]⟩)):
  Z6 prog C0 (Z3 prog C0 (n+40)) (n+40) 51 [.isl 1 (bys b)] ⟨0,[]⟩=some (.tup [.int .i64 t,.isl 1 (bys ((b.drop 9).take (atI b 8).toNat))],⟨0,[]⟩):=by
 have e:List.drop 9 (List.take (9+atI b 8).toNat b)=(b.drop 9).take (atI b 8).toNat:=by
  have q:(9+atI b 8).toNat=9+(atI b 8).toNat:=by omega
  rw [q,List.drop_take];congr 1;omega
 have f1:(0:Int)<=(0:Int)/\(0:Int)<=Option.getD (some (8:Int)) ((bys b).length:Int)/\Option.getD (some (8:Int)) ((bys b).length:Int)<=((bys b).length:Int):=by simp;omega
 have f2:=zq8_6 b;have f3:=N (n+19);have f4:(0:Int)<=(56:Int)/\(56:Int)<=Option.getD none ((bys b).length:Int)/\Option.getD none ((bys b).length:Int)<=((bys b).length:Int):=by simp;omega
 have f5:=zq8_7 b;have f6:=M (n+19);have f7:(!decide (t=t))=false:=by simp
 have f8:(bys b)[8]? = some (LV.int IntKind.u8 (atI b 8)):=by simp (disch:=omega)
 have f9:(0:Int)<=(8:Int)/\(8:Int)<((bys b).length:Int):=by simp;omega
 have f10:LV.bool (if (!decide (t=t))=true then true else decide (47<atI b 8))=LV.bool false:=by simp;omega
 have f11:LV.int i64 (IntKind.wrap i64 (atI b 8))=LV.int i64 (atI b 8):=by simp (disch:=omega)
 have f12:LV.int i64 (IntKind.wrap i64 (9+atI b 8))=LV.int i64 (9+atI b 8):=by simp (disch:=omega)
 have f13:(0:Int)<=(9:Int)/\(9:Int)<=Option.getD (some ((9:Int)+atI b (8:Nat))) ((bys b).length:Int)/\Option.getD (some ((9:Int)+atI b (8:Nat))) ((bys b).length:Int)<=((bys b).length:Int):=by simp;omega
 have f14:LV.isl 1 (List.drop 9 (List.take (Int.toNat (Option.getD (some (9+atI b 8)) ((bys b).length:Int))) (bys b)))=LV.isl 1 (bys (List.take (Int.toNat (atI b 8)) (List.drop 9 b))):=by simp (disch:=omega) [-List.reduceReplicate,hb,h4,h5,e]
 exact drn (fun h=>ai (f1)<|ai (f2)<|ai (f3)<|ai (f4)<|ai (f5)<|ai (f6)<|ai (congrArg some f7)<|ai (congrArg some f7)<|ai (f9)<|ai (f8)<|ai (congrArg some f7)<|ai (congrArg some f7)<|ai (f10)<|ai (f9)<|ai (f8)<|ai (f11)<|ai (f12)<|ai (f13)<|ai (f14)<|h) (.s (.a) (.s (.r [.a,.v (vOf f2) (.q),.f (rOf f3)]) (.s (.s (.r [.a,.a,.v (vOf f5) (.q),.f (rOf f6),.a,.a,.g false (.a),.g false (.e (rOf f8)),.g false (.a),.g false (.a),.v (vOf f10) (.a)]) (.a)) (.s (.d [] [.a,.a,.a,.e (rOf f8),.a,.v (vOf f11) (.a),.v (vOf f12) (.a),.v (vOf f14) (.q),.a] [] []) (.a))))) [] .a (by kernel_rfl)
theorem rr_no(n:Nat)(b:List Int)(hb:b.length=64)(t u:Int)(h:¬ t=u)(N:∀ k,Z6 prog C0 (Z3 prog C0 (k+20)) (k+20) 85 [.isl 1 (bys (b.take 8))] ⟨0,[]⟩=some (.int .i64 t,⟨0,[]⟩))(M:∀ k,Z6 prog C0 (Z3 prog C0 (k+20)) (k+20) 85 [.isl 1 (bys (b.drop 56))] ⟨0,[]⟩=some (.int .i64 u,⟨0,[]⟩)):
  Z6 prog C0 (Z3 prog C0 (n+40)) (n+40) 51 [.isl 1 (bys b)] ⟨0,[]⟩=some (.tup [.int .i64 0,.isl 1 []],⟨0,[]⟩):=by
 have f1:(0:Int)<=(0:Int)/\(0:Int)<=Option.getD (some (8:Int)) ((bys b).length:Int)/\Option.getD (some (8:Int)) ((bys b).length:Int)<=((bys b).length:Int):=by simp;omega
 have f2:=zq8_6 b;have f3:=N (n+19);have f4:(0:Int)<=(56:Int)/\(56:Int)<=Option.getD none ((bys b).length:Int)/\Option.getD none ((bys b).length:Int)<=((bys b).length:Int):=by simp;omega
 have f5:=zq8_7 b;have f6:=M (n+19);have f7:(!decide (t=u))=true:=by simp;omega
 have f8:Xf (!decide (t=u)) (LV.bool true) LV.any=some (LV.bool true):=by simp;omega
 exact drn (fun h=>ai (f1)<|ai (f2)<|ai (f3)<|ai (f4)<|ai (f5)<|ai (f6)<|ai (congrArg some f7)<|ai (congrArg some f7)<|ai (congrArg some f7)<|ai (congrArg some f7)<|ai (Y3 (st:=(St.mk 0 [])) f8)<|h) (.s (.a) (.s (.r [.a,.v (vOf f2) (.q),.f (rOf f3)]) (.s (.s (.r [.a,.a,.v (vOf f5) (.q),.f (rOf f6),.a,.a,.g true (.a),.g true (.a),.g true (.a),.g true (.a),.t (rOf (Y3 (st:=(St.mk 0 [])) f8))]) (.a)) .a))) [] .a (by kernel_rfl)
theorem rr_big(n:Nat)(b:List Int)(hb:b.length=64)(t:Int)(h4:47<atI b 8)(h5:atI b 8<256)(N:∀ k,Z6 prog C0 (Z3 prog C0 (k+20)) (k+20) 85 [.isl 1 (bys (b.take 8))] ⟨0,[]⟩=some (.int .i64 t,⟨0,[]⟩))(M:∀ k,Z6 prog C0 (Z3 prog C0 (k+20)) (k+20) 85 [.isl 1 (bys (b.drop 56))] ⟨0,[]⟩=some (.int .i64 t,⟨0,[]⟩)):
  Z6 prog C0 (Z3 prog C0 (n+40)) (n+40) 51 [.isl 1 (bys b)] ⟨0,[]⟩=some (.tup [.int .i64 0,.isl 1 []],⟨0,[]⟩):=by
 have f1:(0:Int)<=(0:Int)/\(0:Int)<=Option.getD (some (8:Int)) ((bys b).length:Int)/\Option.getD (some (8:Int)) ((bys b).length:Int)<=((bys b).length:Int):=by simp;omega
 have f2:=zq8_6 b;have f3:=N (n+19);have f4:(0:Int)<=(56:Int)/\(56:Int)<=Option.getD none ((bys b).length:Int)/\Option.getD none ((bys b).length:Int)<=((bys b).length:Int):=by simp;omega
 have f5:=zq8_7 b;have f6:=M (n+19);have f7:(!decide (t=t))=false:=by simp
 have f8:(bys b)[8]? = some (LV.int IntKind.u8 (atI b 8)):=by simp (disch:=omega)
 have f9:(0:Int)<=(8:Int)/\(8:Int)<((bys b).length:Int):=by simp;omega
 have f10:LV.bool (if (!decide (t=t))=true then true else decide (47<atI b 8))=LV.bool true:=by simp;omega
 exact drn (fun h=>ai (f1)<|ai (f2)<|ai (f3)<|ai (f4)<|ai (f5)<|ai (f6)<|ai (congrArg some f7)<|ai (congrArg some f7)<|ai (f9)<|ai (f8)<|ai (congrArg some f7)<|ai (congrArg some f7)<|ai (f10)<|h) (.s (.a) (.s (.r [.a,.v (vOf f2) (.q),.f (rOf f3)]) (.s (.s (.r [.a,.a,.v (vOf f5) (.q),.f (rOf f6),.a,.a,.g false (.a),.g false (.e (rOf f8)),.g false (.a),.g false (.a),.v (vOf f10) (.a)]) (.a)) .a))) [] .a (by kernel_rfl)
theorem numB_take(b:List Int):numB (b.take 8)=numB b:=by
 unfold numB numF;simp [atI_take]
theorem rr_any(n:Nat)(b:List Int)(hb:b.length=64)(hB:byB b):
  Z6 prog C0 (Z3 prog C0 (n+40)) (n+40) 51 [.isl 1 (bys b)] ⟨0,[]⟩=some (.tup [.int .i64 (rdB b).1,.isl 1 (bys (rdB b).2)],⟨0,[]⟩):=by
 have N:=fun k=>rn_any k (b.take 8) (by simp;omega) (hB.take 8)
 simp only [numB_take] at N;have M:=fun k=>rn_any k (b.drop 56) (by simp;omega) (hB.drop 56)
 have h8:=(Yw hB 8);unfold rdB
 by_cases h1:numB b=numB (b.drop 56)
 ·by_cases h2:atI b 8<=47
  ·rw [if_pos ⟨h1,h2⟩]
   rw [<- h1] at M;exact rr_ok n b hb _ h8.1 h2 N M
  ·rw [if_neg (fun h=>h2 h.2)]
   rw [<- h1] at M;exact rr_big n b hb _ (by omega) h8.2 N M
 ·rw [if_neg (fun h=>h1 h.1)]
  exact rr_no n b hb _ _ h1 N M
end Go.Mac
namespace Go.Mac
open Go Go.Eng Go.Proofs
open Go.Proofs.Tryz (prog)
set_option maxHeartbeats 0
set_option maxRecDepth 100000
abbrev rNil(rm:Int):LV:=.agg [.int .i64 rm,.nils,.nils]
theorem find_nil1(a:Int):Z6 prog Ck (Z3 prog Ck 599) 599 57 [.nils,.int .i64 a] ⟨0,[]⟩=some (.tup [.isl 1 [],.bool false],⟨0,[]⟩):=by
 exact drn (fun h=>h) (.a) [] .a (by kernel_rfl)
theorem find_nil0(n:Nat)(a:Int):Z6 prog C0 (Z3 prog C0 (n+10)) (n+10) 57 [.nils,.int .i64 a] ⟨0,[]⟩=some (.tup [.isl 1 [],.bool false],⟨0,[]⟩):=
 x_runx (C:=C0) (G:=via 57) rfl (lcall_nil («as»:=[.nils,.int .i64 a]) rfl (find_nil1 a)) (by kernel_rfl)
end Go.Mac
namespace Go.Mac
open Go Go.Eng Go.Proofs Go.Mac.Nd
open Go.IntKind (i64)
open Go.Proofs.Tryz (prog)
set_option maxHeartbeats 0
set_option maxRecDepth 100000
theorem Zi(x:Int)(h:0<=x):x.tdiv 256=x/256:=Int.tdiv_eq_ediv_of_nonneg h
theorem Zh(x:Int)(h:0<=x):x.tmod 256=x % 256:=Int.tmod_eq_emod_of_nonneg h
abbrev sR(rm:Int)(m:ML)(p:PL)(at_ t:Int)(v:List Int)(lo:Bool):LV:=.agg [.int .i64 rm,.isl 2 (Z1 m),.isl 3 (Z5 p),.int .i64 at_,.int .i64 t,.isl 1 (bys v),.bool lo]
def V9(t:Int):List Int:=[t/256/256/256/256/256/256/256 % 256,t/256/256/256/256/256/256 % 256,t/256/256/256/256/256 % 256,t/256/256/256/256 % 256,t/256/256/256 % 256,t/256/256 % 256,t/256 % 256,t % 256]
theorem bys_snoc(X:List Int)(c:Int):bys X++[.int .u8 c]=bys (X++[c]):=by simp [bys]
@[simp] theorem rdig_length(t:Int):(V9 t).length=8:=rfl
abbrev rpE(v:List Int)(L:Nat):LEnv:=[.any,.isl 1 (bys v),.ptr 0 0,.any,.ptr 1 0,.any,.sl 1 2 0 8 none,.any,.any,.sl 1 3 0 L none,.any,.any,.any,.any,.any,.any,.any,.any,.any,.any,.any,.any,.any,.any,.any,.any,.any,.any,.any,.any,.any,.any,.any,.any,.any,.any,.any,.any,.any,.any,.any,.any,.any,.any,.any,.any,.any,.any,.any,.any,.any,.any,.any,.any,.any,.any,.any,.any,.any,.any,.any,.any,.any,.any,.any,.any,.any,.any,.any,.any,.any,.any,.any,.any,.any,.any,.any,.any,.any,.any,.any,.any]
abbrev rpX(v:List Int)(L:Nat):LEnv:=[.any,.isl 1 (bys v),.ptr 0 0,.any,.ptr 1 0,.any,.sl 1 2 0 8 none,.any,.any,.sl 1 3 0 L none,.any,.any,.any,.any,.any,.any,.any,.any,.any,.any,.any,.any,.any,.any,.any,.any,.any,.any,.any,.any,.any,.any,.any,.any,.any,.any,.any,.any,.any,.any,.any,.any,.any,.any,.any,.any,.any,.sl 1 3 0 L none,.int i64 L,.bool (decide ((L:Int)<56)),.any,.any,.any,.any,.any,.any,.any,.any,.any,.any,.any,.any,.any,.any,.any,.any,.any,.any,.any,.any,.any,.any,.any,.any,.any,.any,.any,.any,.any,.any,.any,.any]
abbrev rpS(rm:Int)(m:ML)(p:PL)(at_ tn:Int)(w:List Int)(D X:List Int):St:=⟨4,[(0,LObj.box 39 [.int .i64 rm,.isl 2 (Z1 m),.isl 3 (Z5 p),.int .i64 at_,.int .i64 tn,.isl 1 (bys w),.bool false]),(1,LObj.box 39 [.int .i64 0,.nils,.nils,.int .i64 0,.int .i64 0,.nils,.bool false]),(2,LObj.row 5 1 (bys D)),(3,LObj.row 5 1 (bys X))]⟩
theorem rp_end(n fu:Nat)(rm:Int)(m:ML)(p:PL)(at_ tn:Int)(w v D X:List Int)(hX:X.length=56):
  Z2 prog C0 (n+300) 12 1 0 (fu+1) (rpE v X.length) (rpS rm m p at_ tn w D X)=some (.exit 2,rpX v X.length,rpS rm m p at_ tn w D X):=by
 have f1:decide ((X.length:Int)<56)=false:=by simp;omega
 exact dlp (fun h=>ai (congrArg LV.bool f1)<|h) (.i (.s (.s (.a) (.b false (.a))) .a) (.a)) (by kernel_rfl)
theorem rp_step(n fu:Nat)(rm:Int)(m:ML)(p:PL)(at_ tn:Int)(w v D X:List Int)(hX:X.length<56)(hX0:0<X.length)(r:LX × LEnv × St)(hr:Z2 prog C0 (n+300) 12 1 0 fu (rpE v (X.length+1)) (rpS rm m p at_ tn w D (X++[0]))=some r):
  Z2 prog C0 (n+300) 12 1 0 (fu+1) (rpE v X.length) (rpS rm m p at_ tn w D X)=some r:=by
 have f1:decide ((X.length:Int)<56)=true:=by simp [-List.reduceReplicate,bys_snoc];omega
 have f2:1<=1:=by omega
 have f3:List.length (bys X)=List.length X/\(List.length X+1)*1<=140737488355328:=by simp [-List.reduceReplicate,bys_snoc];omega
 have f4:LObj.row 5 1 (bys X++[.int IntKind.u8 0])=LObj.row 5 1 (bys (X++[0])):=by simp (disch:=omega) [-List.reduceReplicate,bys_snoc]
 have f5:=hr;exact dlp (fun h=>ai (congrArg LV.bool f1)<|ai (f2)<|ai (f3)<|ai (congrArg some f4)<|ai (Eq.refl (Z9 f5))<|ai (f5)<|h) (.i (.s (.s (.a) (.b true (.a))) (.k (.r [.a,.a,.x 5 (vOf f4) (.q)]))) (.h [] (eOf f5) (Zp f5) (rOf f5))) (by kernel_rfl)
theorem zq8_8(a0:Int):LObj.row 5 1 (List.set [.int IntKind.u8 0,.int IntKind.u8 0,.int IntKind.u8 0,.int IntKind.u8 0,.int IntKind.u8 0,.int IntKind.u8 0,.int IntKind.u8 0,.int IntKind.u8 0] 7 (LV.int IntKind.u8 ((a0+1) % 256)))=LObj.row 5 1 [.int IntKind.u8 0,.int IntKind.u8 0,.int IntKind.u8 0,.int IntKind.u8 0,.int IntKind.u8 0,.int IntKind.u8 0,.int IntKind.u8 0,.int IntKind.u8 ((a0+1) % 256)]:=by simp
theorem zq8_9(a0:Int):LObj.row 5 1 (List.set [.int IntKind.u8 0,.int IntKind.u8 0,.int IntKind.u8 0,.int IntKind.u8 0,.int IntKind.u8 0,.int IntKind.u8 0,.int IntKind.u8 0,.int IntKind.u8 ((a0+1) % 256)] 6 (LV.int IntKind.u8 ((a0+1)/256 % 256)))=LObj.row 5 1 [.int IntKind.u8 0,.int IntKind.u8 0,.int IntKind.u8 0,.int IntKind.u8 0,.int IntKind.u8 0,.int IntKind.u8 0,.int IntKind.u8 ((a0+1)/256 % 256),.int IntKind.u8 ((a0+1) % 256)]:=by simp
theorem zq8_10(a0:Int):LObj.row 5 1 (List.set [.int IntKind.u8 0,.int IntKind.u8 0,.int IntKind.u8 0,.int IntKind.u8 0,.int IntKind.u8 0,.int IntKind.u8 0,.int IntKind.u8 ((a0+1)/256 % 256),.int IntKind.u8 ((a0+1) % 256)] 5 (LV.int IntKind.u8 ((a0+1)/256/256 % 256)))=LObj.row 5 1 [.int IntKind.u8 0,.int IntKind.u8 0,.int IntKind.u8 0,.int IntKind.u8 0,.int IntKind.u8 0,.int IntKind.u8 ((a0+1)/256/256 % 256),.int IntKind.u8 ((a0+1)/256 % 256),.int IntKind.u8 ((a0+1) % 256)]:=by simp
theorem zq8_11(a0:Int):LObj.row 5 1 (List.set [.int IntKind.u8 0,.int IntKind.u8 0,.int IntKind.u8 0,.int IntKind.u8 0,.int IntKind.u8 0,.int IntKind.u8 ((a0+1)/256/256 % 256),.int IntKind.u8 ((a0+1)/256 % 256),.int IntKind.u8 ((a0+1) % 256)] 4 (LV.int IntKind.u8 ((a0+1)/256/256/256 % 256)))=LObj.row 5 1 [.int IntKind.u8 0,.int IntKind.u8 0,.int IntKind.u8 0,.int IntKind.u8 0,.int IntKind.u8 ((a0+1)/256/256/256 % 256),.int IntKind.u8 ((a0+1)/256/256 % 256),.int IntKind.u8 ((a0+1)/256 % 256),.int IntKind.u8 ((a0+1) % 256)]:=by simp
theorem zq8_12(a0:Int):LObj.row 5 1 (List.set [.int IntKind.u8 0,.int IntKind.u8 0,.int IntKind.u8 0,.int IntKind.u8 0,.int IntKind.u8 ((a0+1)/256/256/256 % 256),.int IntKind.u8 ((a0+1)/256/256 % 256),.int IntKind.u8 ((a0+1)/256 % 256),.int IntKind.u8 ((a0+1) % 256)] 3 (LV.int IntKind.u8 ((a0+1)/256/256/256/256 % 256)))=LObj.row 5 1 [.int IntKind.u8 0,.int IntKind.u8 0,.int IntKind.u8 0,.int IntKind.u8 ((a0+1)/256/256/256/256 % 256),.int IntKind.u8 ((a0+1)/256/256/256 % 256),.int IntKind.u8 ((a0+1)/256/256 % 256),.int IntKind.u8 ((a0+1)/256 % 256),.int IntKind.u8 ((a0+1) % 256)]:=by simp
theorem zq8_13(a0:Int):LObj.row 5 1 (List.set [.int IntKind.u8 0,.int IntKind.u8 0,.int IntKind.u8 0,.int IntKind.u8 ((a0+1)/256/256/256/256 % 256),.int IntKind.u8 ((a0+1)/256/256/256 % 256),.int IntKind.u8 ((a0+1)/256/256 % 256),.int IntKind.u8 ((a0+1)/256 % 256),.int IntKind.u8 ((a0+1) % 256)] 2 (LV.int IntKind.u8 ((a0+1)/256/256/256/256/256 % 256)))=LObj.row 5 1 [.int IntKind.u8 0,.int IntKind.u8 0,.int IntKind.u8 ((a0+1)/256/256/256/256/256 % 256),.int IntKind.u8 ((a0+1)/256/256/256/256 % 256),.int IntKind.u8 ((a0+1)/256/256/256 % 256),.int IntKind.u8 ((a0+1)/256/256 % 256),.int IntKind.u8 ((a0+1)/256 % 256),.int IntKind.u8 ((a0+1) % 256)]:=by simp
theorem zq8_14(a0:Int):LObj.row 5 1 (List.set [.int IntKind.u8 0,.int IntKind.u8 0,.int IntKind.u8 ((a0+1)/256/256/256/256/256 % 256),.int IntKind.u8 ((a0+1)/256/256/256/256 % 256),.int IntKind.u8 ((a0+1)/256/256/256 % 256),.int IntKind.u8 ((a0+1)/256/256 % 256),.int IntKind.u8 ((a0+1)/256 % 256),.int IntKind.u8 ((a0+1) % 256)] 1 (LV.int IntKind.u8 ((a0+1)/256/256/256/256/256/256 % 256)))=LObj.row 5 1 [.int IntKind.u8 0,.int IntKind.u8 ((a0+1)/256/256/256/256/256/256 % 256),.int IntKind.u8 ((a0+1)/256/256/256/256/256 % 256),.int IntKind.u8 ((a0+1)/256/256/256/256 % 256),.int IntKind.u8 ((a0+1)/256/256/256 % 256),.int IntKind.u8 ((a0+1)/256/256 % 256),.int IntKind.u8 ((a0+1)/256 % 256),.int IntKind.u8 ((a0+1) % 256)]:=by simp
theorem zq8_15(a0:Int):LObj.row 5 1 (List.set [.int IntKind.u8 0,.int IntKind.u8 ((a0+1)/256/256/256/256/256/256 % 256),.int IntKind.u8 ((a0+1)/256/256/256/256/256 % 256),.int IntKind.u8 ((a0+1)/256/256/256/256 % 256),.int IntKind.u8 ((a0+1)/256/256/256 % 256),.int IntKind.u8 ((a0+1)/256/256 % 256),.int IntKind.u8 ((a0+1)/256 % 256),.int IntKind.u8 ((a0+1) % 256)] 0 (LV.int IntKind.u8 ((a0+1)/256/256/256/256/256/256/256 % 256)))=LObj.row 5 1 [.int IntKind.u8 ((a0+1)/256/256/256/256/256/256/256 % 256),.int IntKind.u8 ((a0+1)/256/256/256/256/256/256 % 256),.int IntKind.u8 ((a0+1)/256/256/256/256/256 % 256),.int IntKind.u8 ((a0+1)/256/256/256/256 % 256),.int IntKind.u8 ((a0+1)/256/256/256 % 256),.int IntKind.u8 ((a0+1)/256/256 % 256),.int IntKind.u8 ((a0+1)/256 % 256),.int IntKind.u8 ((a0+1) % 256)]:=by simp
theorem zq8_16(a0:List Int):LV.sl 1 6 0 (9+List.length (Zo (bys a0))) none=LV.sl 1 6 0 (9+List.length a0) none:=by simp
theorem zq8_17(a0:Int)(a1:List Int):LObj.row 5 1 (List.take 8 (List.drop 0 [.int IntKind.u8 ((a0+1)/256/256/256/256/256/256/256 % 256),.int IntKind.u8 ((a0+1)/256/256/256/256/256/256 % 256),.int IntKind.u8 ((a0+1)/256/256/256/256/256 % 256),.int IntKind.u8 ((a0+1)/256/256/256/256 % 256),.int IntKind.u8 ((a0+1)/256/256/256 % 256),.int IntKind.u8 ((a0+1)/256/256 % 256),.int IntKind.u8 ((a0+1)/256 % 256),.int IntKind.u8 ((a0+1) % 256)])++List.take 1 (List.drop 0 (List.set [.int IntKind.u8 0] 0 (LV.int IntKind.u8 (a1.length:Int))))++Zo (bys a1))=LObj.row 5 1 (LV.int IntKind.u8 ((a0+1)/256/256/256/256/256/256/256 % 256)::LV.int IntKind.u8 ((a0+1)/256/256/256/256/256/256 % 256)::LV.int IntKind.u8 ((a0+1)/256/256/256/256/256 % 256)::LV.int IntKind.u8 ((a0+1)/256/256/256/256 % 256)::LV.int IntKind.u8 ((a0+1)/256/256/256 % 256)::LV.int IntKind.u8 ((a0+1)/256/256 % 256)::LV.int IntKind.u8 ((a0+1)/256 % 256)::LV.int IntKind.u8 ((a0+1) % 256)::LV.int IntKind.u8 (a1.length:Int)::bys a1):=by simp
theorem zq8_18(a0:List Int):LObj.row 5 1 (List.set [.int IntKind.u8 0] 0 (LV.int IntKind.u8 (a0.length:Int)))=LObj.row 5 1 [.int IntKind.u8 (a0.length:Int)]:=by simp
theorem zq8_19(a0:List Int)(a1:Int):LObj.row 5 1 (bys a0++List.take 8 (List.drop 0 (bys (V9 (a1+1)))))=LObj.row 5 1 (bys (a0++List.take 8 (V9 (a1+1)))):=by simp
theorem rp_thru(n:Nat)(rm:Int)(m:ML)(p p':PL)(at_ tn:Int)(w v:List Int)(hv:v.length<=47)(h0:0<=at_)(h1:at_<=1073741823)(ht:0<=tn)(ht2:tn<=2000000000000000000)(hn:300<n)(X:List Int)(hX:X.length=56)(L:Z2 prog C0 (n+300) 12 1 0 (n+300) (rpE v (9+v.length)) (rpS rm m p at_ tn w (V9 (tn+1)) (V9 (tn+1)++(v.length:Int)::v))=some (.exit 2,rpX v X.length,rpS rm m p at_ tn w (V9 (tn+1)) X))(F:∀ j,300<j->Z6 prog C0 (Z3 prog C0 (j+100)) (j+100) 26 [rR rm m p,.int .i64 (at_+(tn+1) % 2),.isl 1 (bys (X++V9 (tn+1)))] ⟨0,[]⟩=some (.tup [rR rm m p',.int .i64 0],⟨0,[]⟩)):
  Z6 prog C0 (Z3 prog C0 (n+300)) (n+300) 12 [sR rm m p at_ tn w false,.isl 1 (bys v)] ⟨0,[]⟩=some (.tup [sR rm m p' at_ (tn+1) v true,.int .i64 0],⟨0,[]⟩):=by
 have f1:decide (47<((bys v).length:Int))=false:=by simp [-List.reduceReplicate,Zi,Zh];omega
 have f2:LV.int i64 (IntKind.wrap i64 (tn+1))=LV.int i64 (tn+1):=by simp (disch:=omega) [-List.reduceReplicate,Zi,Zh]
 have f3:LV.int IntKind.u8 (IntKind.wrap IntKind.u8 (Int.tmod (tn+1) 256))=LV.int IntKind.u8 ((tn+1) % 256):=by simp (disch:=omega) [-List.reduceReplicate,Zi,Zh]
 have f4:LV.int i64 (IntKind.wrap i64 (Int.tdiv (tn+1) 256))=LV.int i64 ((tn+1)/256):=by simp (disch:=omega) [-List.reduceReplicate,Zi,Zh]
 have f5:=zq8_8 tn;have f6:LV.int IntKind.u8 (IntKind.wrap IntKind.u8 (Int.tmod ((tn+1)/256) 256))=LV.int IntKind.u8 ((tn+1)/256 % 256):=by simp (disch:=omega) [-List.reduceReplicate,Zi,Zh]
 have f7:LV.int i64 (IntKind.wrap i64 (Int.tdiv ((tn+1)/256) 256))=LV.int i64 ((tn+1)/256/256):=by simp (disch:=omega) [-List.reduceReplicate,Zi,Zh]
 have f8:=zq8_9 tn;have f9:LV.int IntKind.u8 (IntKind.wrap IntKind.u8 (Int.tmod ((tn+1)/256/256) 256))=LV.int IntKind.u8 ((tn+1)/256/256 % 256):=by simp (disch:=omega) [-List.reduceReplicate,Zi,Zh]
 have f10:LV.int i64 (IntKind.wrap i64 (Int.tdiv ((tn+1)/256/256) 256))=LV.int i64 ((tn+1)/256/256/256):=by simp (disch:=omega) [-List.reduceReplicate,Zi,Zh]
 have f11:=zq8_10 tn;have f12:LV.int IntKind.u8 (IntKind.wrap IntKind.u8 (Int.tmod ((tn+1)/256/256/256) 256))=LV.int IntKind.u8 ((tn+1)/256/256/256 % 256):=by simp (disch:=omega) [-List.reduceReplicate,Zi,Zh]
 have f13:LV.int i64 (IntKind.wrap i64 (Int.tdiv ((tn+1)/256/256/256) 256))=LV.int i64 ((tn+1)/256/256/256/256):=by simp (disch:=omega) [-List.reduceReplicate,Zi,Zh]
 have f14:=zq8_11 tn;have f15:LV.int IntKind.u8 (IntKind.wrap IntKind.u8 (Int.tmod ((tn+1)/256/256/256/256) 256))=LV.int IntKind.u8 ((tn+1)/256/256/256/256 % 256):=by simp (disch:=omega) [-List.reduceReplicate,Zi,Zh]
 have f16:LV.int i64 (IntKind.wrap i64 (Int.tdiv ((tn+1)/256/256/256/256) 256))=LV.int i64 ((tn+1)/256/256/256/256/256):=by simp (disch:=omega) [-List.reduceReplicate,Zi,Zh]
 have f17:=zq8_12 tn;have f18:LV.int IntKind.u8 (IntKind.wrap IntKind.u8 (Int.tmod ((tn+1)/256/256/256/256/256) 256))=LV.int IntKind.u8 ((tn+1)/256/256/256/256/256 % 256):=by simp (disch:=omega) [-List.reduceReplicate,Zi,Zh]
 have f19:LV.int i64 (IntKind.wrap i64 (Int.tdiv ((tn+1)/256/256/256/256/256) 256))=LV.int i64 ((tn+1)/256/256/256/256/256/256):=by simp (disch:=omega) [-List.reduceReplicate,Zi,Zh]
 have f20:=zq8_13 tn;have f21:LV.int IntKind.u8 (IntKind.wrap IntKind.u8 (Int.tmod ((tn+1)/256/256/256/256/256/256) 256))=LV.int IntKind.u8 ((tn+1)/256/256/256/256/256/256 % 256):=by simp (disch:=omega) [-List.reduceReplicate,Zi,Zh]
 have f22:LV.int i64 (IntKind.wrap i64 (Int.tdiv ((tn+1)/256/256/256/256/256/256) 256))=LV.int i64 ((tn+1)/256/256/256/256/256/256/256):=by simp (disch:=omega) [-List.reduceReplicate,Zi,Zh]
 have f23:=zq8_14 tn;have f24:LV.int IntKind.u8 (IntKind.wrap IntKind.u8 (Int.tmod ((tn+1)/256/256/256/256/256/256/256) 256))=LV.int IntKind.u8 ((tn+1)/256/256/256/256/256/256/256 % 256):=by simp (disch:=omega) [-List.reduceReplicate,Zi,Zh]
 have f25:LV.int i64 (IntKind.wrap i64 (Int.tdiv ((tn+1)/256/256/256/256/256/256/256) 256))=LV.int i64 ((tn+1)/256/256/256/256/256/256/256/256):=by simp (disch:=omega) [-List.reduceReplicate,Zi,Zh]
 have f26:=zq8_15 tn;have f27:LV.int IntKind.u8 (IntKind.wrap IntKind.u8 ((bys v).length:Int))=LV.int IntKind.u8 (v.length:Int):=by simp (disch:=omega) [-List.reduceReplicate,Zi,Zh]
 have f28:Yj true 1 (Zo (bys v))=true:=by simp
 have f29:9=9/\(9+List.length (Zo (bys v)))*1<=140737488355328:=by simp [-List.reduceReplicate,Zi,Zh];omega
 have f30:=zq8_16 v;have f31:=zq8_17 tn v;have f32:=zq8_18 v;have f33:=L
 have f34:8<=8:=by omega
 have f35:List.length (bys X)=List.length X/\(List.length X+8)*1<=140737488355328:=by simp [-List.reduceReplicate,Zi,Zh];omega
 have f36:LV.sl 1 4 0 (List.length X+8) none=LV.sl 1 4 0 64 none:=by simp [-List.reduceReplicate,Zi,Zh];omega
 have f37:=zq8_19 X tn;have f38:LV.int i64 (IntKind.wrap i64 (at_+Int.tmod (tn+1) 2))=LV.int i64 (at_+(tn+1) % 2):=by simp (disch:=omega) [-List.reduceReplicate,Zi,Zh]
 have f39:(if 4=4 then if 1=1/\0+64<=List.length (bys (X++List.take 8 (V9 (tn+1))))/\X1 64 none=true then LV.isl 1 (List.take 64 (List.drop 0 (bys (X++List.take 8 (V9 (tn+1)))))) else LV.any else LV.sl 1 4 0 64 none)=LV.isl 1 (bys (X++List.take 8 (V9 (tn+1)))):=by simp (disch:=first | omega | (simp;omega)) [-List.reduceReplicate,Zi,Zh,if_pos,if_neg]
 have f40:LV.sl 1 3 0 (List.length X) none=LV.sl 1 3 0 56 none:=by simp [-List.reduceReplicate,Zi,Zh];omega
 have f41:LV.int i64 (Int.tmod (tn+1) 2)=LV.int i64 ((tn+1) % 2):=by simp (disch:=omega) [-List.reduceReplicate,Zi,Zh]
 have f42:=F (n+199) (by omega)
 exact drn (fun h=>ai (congrArg LV.bool f1)<|ai (f2)<|ai (f3)<|ai (f4)<|ai (congrArg some f5)<|ai (f6)<|ai (f7)<|ai (congrArg some f8)<|ai (f9)<|ai (f10)<|ai (congrArg some f11)<|ai (f12)<|ai (f13)<|ai (congrArg some f14)<|ai (f15)<|ai (f16)<|ai (congrArg some f17)<|ai (f18)<|ai (f19)<|ai (congrArg some f20)<|ai (f21)<|ai (f22)<|ai (congrArg some f23)<|ai (f24)<|ai (f25)<|ai (congrArg some f26)<|ai (f27)<|ai (f28)<|ai (f29)<|ai (f30)<|ai (congrArg some f31)<|ai (congrArg some f32)<|ai (Eq.refl (Z9 f33))<|ai (f33)<|ai (f34)<|ai (f35)<|ai (f36)<|ai (congrArg some f37)<|ai (f2)<|ai (f38)<|ai (f39)<|ai (f40)<|ai (f39)<|ai (f41)<|ai (f39)<|ai (f42)<|ai (f2)<|h) (.s (.a) (.s (.s (.a) (.b false (.a))) (.s (.a) (.s (.a) (.s (.r [.a,.a,.v (vOf f2) (.a)]) (.s (.s (.a) (.k (.l (.i (.s (.a) (.s (.k (.s (.r [.a,.a,.a,.a,.v (vOf f3) (.a)]) (.r [.a,.v (vOf f4) (.a)]))) (.a))) (.it [.x 2 (vOf f5)] (.s (.a) (.s (.k (.s (.r [.a,.a,.a,.a,.v (vOf f6) (.a)]) (.r [.a,.v (vOf f7) (.a)]))) (.a))) (.it [.x 2 (vOf f8)] (.s (.a) (.s (.k (.s (.r [.a,.a,.a,.a,.v (vOf f9) (.a)]) (.r [.a,.v (vOf f10) (.a)]))) (.a))) (.it [.x 2 (vOf f11)] (.s (.a) (.s (.k (.s (.r [.a,.a,.a,.a,.v (vOf f12) (.a)]) (.r [.a,.v (vOf f13) (.a)]))) (.a))) (.it [.x 2 (vOf f14)] (.s (.a) (.s (.k (.s (.r [.a,.a,.a,.a,.v (vOf f15) (.a)]) (.r [.a,.v (vOf f16) (.a)]))) (.a))) (.it [.x 2 (vOf f17)] (.s (.a) (.s (.k (.s (.r [.a,.a,.a,.a,.v (vOf f18) (.a)]) (.r [.a,.v (vOf f19) (.a)]))) (.a))) (.it [.x 2 (vOf f20)] (.s (.a) (.s (.k (.s (.r [.a,.a,.a,.a,.v (vOf f21) (.a)]) (.r [.a,.v (vOf f22) (.a)]))) (.a))) (.it [.x 2 (vOf f23)] (.s (.a) (.s (.k (.s (.r [.a,.a,.a,.a,.v (vOf f24) (.a)]) (.r [.a,.v (vOf f25) (.a)]))) (.a))) (.it [.x 2 (vOf f26)] (.a) (.a))))))))))))) (.s (.a) (.s (.a) (.s (.r [.a,.a,.a,.v (vOf f27) (.a)]) (.s (.r [.a,.a,.x 4 (vOf f32) (.x 6 (vOf f31) (.v (vOf f30) (.q)))]) (.s (.k (.l (.h [] (eOf f33) (Zp f33) (rOf f33)))) (.s (.r [.a,.a,.x 4 (vOf f37) (.v (vOf f36) (.q))]) (.s (.r [.a,.a,.a,.a,.a,.a,.v (vOf f2) (.a),.a,.v (vOf f38) (.a),.a,.z [.y 9 (vOf f39),.y 53 (vOf f40),.y 55 (vOf f39),.y 64 (vOf f41),.y 66 (vOf f39)] (.f (rOf f42))]) (.s (.a) (.s (.r [.a,.a,.a,.a,.a,.v (vOf f2) (.a)]) (.a)))))))))))))))) [] .a (by kernel_rfl)
theorem rp_full(n:Nat)(rm:Int)(m:ML)(p:PL)(at_ tn:Int)(w v:List Int)(hv:v.length<=47)(h0:0<=at_)(h1:at_<=1073741823)(ht:0<=tn)(ht2:tn<=2000000000000000000)(hn:300<n)(X:List Int)(hX:X.length=56)(L:Z2 prog C0 (n+300) 12 1 0 (n+300) (rpE v (9+v.length)) (rpS rm m p at_ tn w (V9 (tn+1)) (V9 (tn+1)++(v.length:Int)::v))=some (.exit 2,rpX v X.length,rpS rm m p at_ tn w (V9 (tn+1)) X))(F:∀ j,300<j->Z6 prog C0 (Z3 prog C0 (j+100)) (j+100) 26 [rR rm m p,.int .i64 (at_+(tn+1) % 2),.isl 1 (bys (X++V9 (tn+1)))] ⟨0,[]⟩=some (.tup [rR rm m p,.int .i64 7],⟨0,[]⟩)):
  Z6 prog C0 (Z3 prog C0 (n+300)) (n+300) 12 [sR rm m p at_ tn w false,.isl 1 (bys v)] ⟨0,[]⟩=some (.tup [sR rm m p at_ tn w false,.int .i64 7],⟨0,[]⟩):=by
 have f1:decide (47<((bys v).length:Int))=false:=by simp [-List.reduceReplicate,Zi,Zh];omega
 have f2:LV.int i64 (IntKind.wrap i64 (tn+1))=LV.int i64 (tn+1):=by simp (disch:=omega) [-List.reduceReplicate,Zi,Zh]
 have f3:LV.int IntKind.u8 (IntKind.wrap IntKind.u8 (Int.tmod (tn+1) 256))=LV.int IntKind.u8 ((tn+1) % 256):=by simp (disch:=omega) [-List.reduceReplicate,Zi,Zh]
 have f4:LV.int i64 (IntKind.wrap i64 (Int.tdiv (tn+1) 256))=LV.int i64 ((tn+1)/256):=by simp (disch:=omega) [-List.reduceReplicate,Zi,Zh]
 have f5:=zq8_8 tn;have f6:LV.int IntKind.u8 (IntKind.wrap IntKind.u8 (Int.tmod ((tn+1)/256) 256))=LV.int IntKind.u8 ((tn+1)/256 % 256):=by simp (disch:=omega) [-List.reduceReplicate,Zi,Zh]
 have f7:LV.int i64 (IntKind.wrap i64 (Int.tdiv ((tn+1)/256) 256))=LV.int i64 ((tn+1)/256/256):=by simp (disch:=omega) [-List.reduceReplicate,Zi,Zh]
 have f8:=zq8_9 tn;have f9:LV.int IntKind.u8 (IntKind.wrap IntKind.u8 (Int.tmod ((tn+1)/256/256) 256))=LV.int IntKind.u8 ((tn+1)/256/256 % 256):=by simp (disch:=omega) [-List.reduceReplicate,Zi,Zh]
 have f10:LV.int i64 (IntKind.wrap i64 (Int.tdiv ((tn+1)/256/256) 256))=LV.int i64 ((tn+1)/256/256/256):=by simp (disch:=omega) [-List.reduceReplicate,Zi,Zh]
 have f11:=zq8_10 tn;have f12:LV.int IntKind.u8 (IntKind.wrap IntKind.u8 (Int.tmod ((tn+1)/256/256/256) 256))=LV.int IntKind.u8 ((tn+1)/256/256/256 % 256):=by simp (disch:=omega) [-List.reduceReplicate,Zi,Zh]
 have f13:LV.int i64 (IntKind.wrap i64 (Int.tdiv ((tn+1)/256/256/256) 256))=LV.int i64 ((tn+1)/256/256/256/256):=by simp (disch:=omega) [-List.reduceReplicate,Zi,Zh]
 have f14:=zq8_11 tn;have f15:LV.int IntKind.u8 (IntKind.wrap IntKind.u8 (Int.tmod ((tn+1)/256/256/256/256) 256))=LV.int IntKind.u8 ((tn+1)/256/256/256/256 % 256):=by simp (disch:=omega) [-List.reduceReplicate,Zi,Zh]
 have f16:LV.int i64 (IntKind.wrap i64 (Int.tdiv ((tn+1)/256/256/256/256) 256))=LV.int i64 ((tn+1)/256/256/256/256/256):=by simp (disch:=omega) [-List.reduceReplicate,Zi,Zh]
 have f17:=zq8_12 tn;have f18:LV.int IntKind.u8 (IntKind.wrap IntKind.u8 (Int.tmod ((tn+1)/256/256/256/256/256) 256))=LV.int IntKind.u8 ((tn+1)/256/256/256/256/256 % 256):=by simp (disch:=omega) [-List.reduceReplicate,Zi,Zh]
 have f19:LV.int i64 (IntKind.wrap i64 (Int.tdiv ((tn+1)/256/256/256/256/256) 256))=LV.int i64 ((tn+1)/256/256/256/256/256/256):=by simp (disch:=omega) [-List.reduceReplicate,Zi,Zh]
 have f20:=zq8_13 tn;have f21:LV.int IntKind.u8 (IntKind.wrap IntKind.u8 (Int.tmod ((tn+1)/256/256/256/256/256/256) 256))=LV.int IntKind.u8 ((tn+1)/256/256/256/256/256/256 % 256):=by simp (disch:=omega) [-List.reduceReplicate,Zi,Zh]
 have f22:LV.int i64 (IntKind.wrap i64 (Int.tdiv ((tn+1)/256/256/256/256/256/256) 256))=LV.int i64 ((tn+1)/256/256/256/256/256/256/256):=by simp (disch:=omega) [-List.reduceReplicate,Zi,Zh]
 have f23:=zq8_14 tn;have f24:LV.int IntKind.u8 (IntKind.wrap IntKind.u8 (Int.tmod ((tn+1)/256/256/256/256/256/256/256) 256))=LV.int IntKind.u8 ((tn+1)/256/256/256/256/256/256/256 % 256):=by simp (disch:=omega) [-List.reduceReplicate,Zi,Zh]
 have f25:LV.int i64 (IntKind.wrap i64 (Int.tdiv ((tn+1)/256/256/256/256/256/256/256) 256))=LV.int i64 ((tn+1)/256/256/256/256/256/256/256/256):=by simp (disch:=omega) [-List.reduceReplicate,Zi,Zh]
 have f26:=zq8_15 tn;have f27:LV.int IntKind.u8 (IntKind.wrap IntKind.u8 ((bys v).length:Int))=LV.int IntKind.u8 (v.length:Int):=by simp (disch:=omega) [-List.reduceReplicate,Zi,Zh]
 have f28:Yj true 1 (Zo (bys v))=true:=by simp
 have f29:9=9/\(9+List.length (Zo (bys v)))*1<=140737488355328:=by simp [-List.reduceReplicate,Zi,Zh];omega
 have f30:=zq8_16 v;have f31:=zq8_17 tn v;have f32:=zq8_18 v;have f33:=L
 have f34:8<=8:=by omega
 have f35:List.length (bys X)=List.length X/\(List.length X+8)*1<=140737488355328:=by simp [-List.reduceReplicate,Zi,Zh];omega
 have f36:LV.sl 1 4 0 (List.length X+8) none=LV.sl 1 4 0 64 none:=by simp [-List.reduceReplicate,Zi,Zh];omega
 have f37:=zq8_19 X tn;have f38:LV.int i64 (IntKind.wrap i64 (at_+Int.tmod (tn+1) 2))=LV.int i64 (at_+(tn+1) % 2):=by simp (disch:=omega) [-List.reduceReplicate,Zi,Zh]
 have f39:(if 4=4 then if 1=1/\0+64<=List.length (bys (X++List.take 8 (V9 (tn+1))))/\X1 64 none=true then LV.isl 1 (List.take 64 (List.drop 0 (bys (X++List.take 8 (V9 (tn+1)))))) else LV.any else LV.sl 1 4 0 64 none)=LV.isl 1 (bys (X++List.take 8 (V9 (tn+1)))):=by simp (disch:=first | omega | (simp;omega)) [-List.reduceReplicate,Zi,Zh,if_pos,if_neg]
 have f40:LV.sl 1 3 0 (List.length X) none=LV.sl 1 3 0 56 none:=by simp [-List.reduceReplicate,Zi,Zh];omega
 have f41:LV.int i64 (Int.tmod (tn+1) 2)=LV.int i64 ((tn+1) % 2):=by simp (disch:=omega) [-List.reduceReplicate,Zi,Zh]
 have f42:=F (n+199) (by omega)
 exact drn (fun h=>ai (congrArg LV.bool f1)<|ai (f2)<|ai (f3)<|ai (f4)<|ai (congrArg some f5)<|ai (f6)<|ai (f7)<|ai (congrArg some f8)<|ai (f9)<|ai (f10)<|ai (congrArg some f11)<|ai (f12)<|ai (f13)<|ai (congrArg some f14)<|ai (f15)<|ai (f16)<|ai (congrArg some f17)<|ai (f18)<|ai (f19)<|ai (congrArg some f20)<|ai (f21)<|ai (f22)<|ai (congrArg some f23)<|ai (f24)<|ai (f25)<|ai (congrArg some f26)<|ai (f27)<|ai (f28)<|ai (f29)<|ai (f30)<|ai (congrArg some f31)<|ai (congrArg some f32)<|ai (Eq.refl (Z9 f33))<|ai (f33)<|ai (f34)<|ai (f35)<|ai (f36)<|ai (congrArg some f37)<|ai (f2)<|ai (f38)<|ai (f39)<|ai (f40)<|ai (f39)<|ai (f41)<|ai (f39)<|ai (f42)<|h) (.s (.a) (.s (.s (.a) (.b false (.a))) (.s (.a) (.s (.a) (.s (.r [.a,.a,.v (vOf f2) (.a)]) (.s (.s (.a) (.k (.l (.i (.s (.a) (.s (.k (.s (.r [.a,.a,.a,.a,.v (vOf f3) (.a)]) (.r [.a,.v (vOf f4) (.a)]))) (.a))) (.it [.x 2 (vOf f5)] (.s (.a) (.s (.k (.s (.r [.a,.a,.a,.a,.v (vOf f6) (.a)]) (.r [.a,.v (vOf f7) (.a)]))) (.a))) (.it [.x 2 (vOf f8)] (.s (.a) (.s (.k (.s (.r [.a,.a,.a,.a,.v (vOf f9) (.a)]) (.r [.a,.v (vOf f10) (.a)]))) (.a))) (.it [.x 2 (vOf f11)] (.s (.a) (.s (.k (.s (.r [.a,.a,.a,.a,.v (vOf f12) (.a)]) (.r [.a,.v (vOf f13) (.a)]))) (.a))) (.it [.x 2 (vOf f14)] (.s (.a) (.s (.k (.s (.r [.a,.a,.a,.a,.v (vOf f15) (.a)]) (.r [.a,.v (vOf f16) (.a)]))) (.a))) (.it [.x 2 (vOf f17)] (.s (.a) (.s (.k (.s (.r [.a,.a,.a,.a,.v (vOf f18) (.a)]) (.r [.a,.v (vOf f19) (.a)]))) (.a))) (.it [.x 2 (vOf f20)] (.s (.a) (.s (.k (.s (.r [.a,.a,.a,.a,.v (vOf f21) (.a)]) (.r [.a,.v (vOf f22) (.a)]))) (.a))) (.it [.x 2 (vOf f23)] (.s (.a) (.s (.k (.s (.r [.a,.a,.a,.a,.v (vOf f24) (.a)]) (.r [.a,.v (vOf f25) (.a)]))) (.a))) (.it [.x 2 (vOf f26)] (.a) (.a))))))))))))) (.s (.a) (.s (.a) (.s (.r [.a,.a,.a,.v (vOf f27) (.a)]) (.s (.r [.a,.a,.x 4 (vOf f32) (.x 6 (vOf f31) (.v (vOf f30) (.q)))]) (.s (.k (.l (.h [] (eOf f33) (Zp f33) (rOf f33)))) (.s (.r [.a,.a,.x 4 (vOf f37) (.v (vOf f36) (.q))]) (.s (.r [.a,.a,.a,.a,.a,.a,.v (vOf f2) (.a),.a,.v (vOf f38) (.a),.a,.z [.y 9 (vOf f39),.y 53 (vOf f40),.y 55 (vOf f39),.y 64 (vOf f41),.y 66 (vOf f39)] (.f (rOf f42))]) (.a)))))))))))))) [] .a (by kernel_rfl)
theorem rp_long(n:Nat)(rm:Int)(m:ML)(p:PL)(at_ tn:Int)(w v:List Int)(lo:Bool)(hv:47<v.length)(hv2:v.length<=1000):
  Z6 prog C0 (Z3 prog C0 (n+300)) (n+300) 12 [sR rm m p at_ tn w lo,.isl 1 (bys v)] ⟨0,[]⟩=some (.tup [sR rm m p at_ tn w lo,.int .i64 6],⟨0,[]⟩):=by
 have f1:decide (47<((bys v).length:Int))=true:=by simp;omega
 exact drn (fun h=>ai (congrArg LV.bool f1)<|h) (.s (.a) (.s (.s (.a) (.b true (.a))) .a)) [] .a (by kernel_rfl)
theorem rp_loose(n:Nat)(rm:Int)(m:ML)(p:PL)(at_ tn:Int)(w v:List Int)(hv:v.length<=47):
  Z6 prog C0 (Z3 prog C0 (n+300)) (n+300) 12 [sR rm m p at_ tn w true,.isl 1 (bys v)] ⟨0,[]⟩=some (.tup [sR rm m p at_ tn w true,.int .i64 10],⟨0,[]⟩):=by
 have f1:decide (47<((bys v).length:Int))=false:=by simp;omega
 exact drn (fun h=>ai (congrArg LV.bool f1)<|h) (.s (.a) (.s (.s (.a) (.b false (.a))) (.a))) [] .a (by kernel_rfl)
theorem rread_nil(n:Nat)(rm at_:Int)(h0:0<=at_)(h1:at_<=1073741824)(hn:100<n):
  Z6 prog C0 (Z3 prog C0 (n+40)) (n+40) 50 [rNil rm,.int .i64 at_] ⟨0,[]⟩=some (.tup [.isl 1 (bys (List.replicate 64 0)),.int .i64 0],⟨0,[]⟩):=by
 have P:=fun k (hk:64<k+20)=>pad_ok k [] (by simp) hk
 have e:blk []=List.replicate 64 0:=by rw [<- blk_padS];simp
 have f1:decide (0<=at_)=true:=by simp;omega
 have f2:LV.bool (if decide (0<=at_)=true then decide (at_<=1073741824) else false)=LV.bool true:=by simp;omega
 have f3:Z6 prog C0 (Z3 prog C0 (n+39)) (n+39) 65 [.int i64 at_] (St.mk 0 [])=some (LV.bool true,St.mk 0 []):=drn (fun h=>ai (congrArg some f1)<|ai (congrArg some f1)<|ai (f2)<|h) (.s (.a) (.s (.r [.a,.a,.a,.g true (.a),.g true (.a),.v (vOf f2) (.a)]) (.a))) [] .a (by kernel_rfl)
 have f4:=find_nil0 (n+29) at_;have f5:=P (n+19) (by omega)
 exact drn (fun h=>ai (f3)<|ai (f4)<|ai (f5)<|h) (.s (.a) (.s (.s (.r [.a,.f (rOf f3)]) (.a)) (.s (.a) (.s (.r [.a,.a,.a,.f (rOf f4)]) (.s (.r [.a,.f (rOf f5)]) (.a)))))) [] .a (by kernel_rfl)
theorem rread_badN(n:Nat)(rm at_:Int)(h:at_<0∨1073741824<at_):
  Z6 prog C0 (Z3 prog C0 (n+40)) (n+40) 50 [rNil rm,.int .i64 at_] ⟨0,[]⟩=some (.tup [.isl 1 [],.int .i64 2],⟨0,[]⟩):=by
 rcases h with h | h
 ·have f1:decide (0<=at_)=false:=by simp;omega
  have f2:Xf (decide (0<=at_)) LV.any (LV.bool false)=some (LV.bool false):=by simp;omega
  have f3:Z6 prog C0 (Z3 prog C0 (n+39)) (n+39) 65 [.int i64 at_] (St.mk 0 [])=some (LV.bool false,St.mk 0 []):=drn (fun h=>ai (congrArg some f1)<|ai (congrArg some f1)<|ai (Y3 (st:=(St.mk 0 [])) f2)<|h) (.s (.a) (.s (.r [.a,.a,.a,.g false (.a),.g false (.a),.t (rOf (Y3 (st:=(St.mk 0 [])) f2))]) (.a))) [] .a (by kernel_rfl)
  exact drn (fun h=>ai (f3)<|h) (.s (.a) (.s (.s (.r [.a,.f (rOf f3)]) (.a)) .a)) [] .a (by kernel_rfl)
 ·have f1:decide (0<=at_)=true:=by simp;omega
  have f2:LV.bool (if decide (0<=at_)=true then decide (at_<=1073741824) else false)=LV.bool false:=by simp;omega
  have f3:Z6 prog C0 (Z3 prog C0 (n+39)) (n+39) 65 [.int i64 at_] (St.mk 0 [])=some (LV.bool false,St.mk 0 []):=drn (fun h=>ai (congrArg some f1)<|ai (congrArg some f1)<|ai (f2)<|h) (.s (.a) (.s (.r [.a,.a,.a,.g true (.a),.g true (.a),.v (vOf f2) (.a)]) (.a))) [] .a (by kernel_rfl)
  exact drn (fun h=>ai (f3)<|h) (.s (.a) (.s (.s (.r [.a,.f (rOf f3)]) (.a)) .a)) [] .a (by kernel_rfl)
theorem rsync10(n:Nat)(rm:Int)(m m':ML)(p:PL)(at_ tn:Int)(w:List Int)(lo:Bool)(hn:300<n)(F:∀ j,300<j->Z6 prog C0 (Z3 prog C0 (j+60)) (j+60) 30 [rR rm m p] ⟨0,[]⟩=some (rR rm m' [],⟨0,[]⟩)):
  Z6 prog C0 (Z3 prog C0 (n+100)) (n+100) 15 [sR rm m p at_ tn w lo] ⟨0,[]⟩=some (sR rm m' [] at_ tn w false,⟨0,[]⟩):=by
 have f1:=F (n+39) (by omega)
 exact drn (fun h=>ai (f1)<|h) (.s (.a) (.s (.d [] [.a,.a,.f (rOf f1),.a,.a,.a,.a,.a,.a] [] []) (.a))) [] .a (by kernel_rfl)
def opT(t0 t1:Int)(v0 v1:List Int):Int × List Int:=
 if t0 % 2=0/\0<t0 then (if t1 % 2=1/\t0<t1 then (t1,v1) else (t0,v0)) else (if t1 % 2=1/\0<t1 then (t1,v1) else (0,[]))
theorem ro_AB(n:Nat)(rm:Int)(m:ML)(p:PL)(at_:Int)(h0:0<=at_)(h1:at_<=1073741823)(b0 b1:List Int)(t0 t1:Int)(v0 v1:List Int)(g0:0<=t0)(g1:0<=t1)(hn:300<n)(R0:∀ j,300<j->Z6 prog C0 (Z3 prog C0 (j+40)) (j+40) 50 [rR rm m p,.int .i64 at_] ⟨0,[]⟩=some (.tup [.isl 1 (bys b0),.int .i64 0],⟨0,[]⟩))(R1:∀ j,300<j->Z6 prog C0 (Z3 prog C0 (j+40)) (j+40) 50 [rR rm m p,.int .i64 (at_+1)] ⟨0,[]⟩=some (.tup [.isl 1 (bys b1),.int .i64 0],⟨0,[]⟩))(r0:∀ k,Z6 prog C0 (Z3 prog C0 (k+40)) (k+40) 51 [.isl 1 (bys b0)] ⟨0,[]⟩=some (.tup [.int .i64 t0,.isl 1 (bys v0)],⟨0,[]⟩))(r1:∀ k,Z6 prog C0 (Z3 prog C0 (k+40)) (k+40) 51 [.isl 1 (bys b1)] ⟨0,[]⟩=some (.tup [.int .i64 t1,.isl 1 (bys v1)],⟨0,[]⟩))(e0:t0 % 2=0)(e1:t1 % 2=1)(e2:0<t0)(e3:t0<t1):
  Z6 prog C0 (Z3 prog C0 (n+100)) (n+100) 10 [rR rm m p,.int .i64 at_] ⟨0,[]⟩=some (.tup [sR rm m p at_ t1 v1 false,.int .i64 0],⟨0,[]⟩):=by
 have f1:LV.int i64 (IntKind.wrap i64 (at_+0))=LV.int i64 at_:=by simp (disch:=omega)
 have f2:=R0 (n+59) (by omega)
 have f3:=r0 (n+59);have f4:decide (0<t0)=true:=by simp;omega
 have f5:LV.bool (if decide (0<t0)=true then decide (Int.tmod t0 2=0) else false)=LV.bool true:=by (simp (disch:=first | omega | (simp;omega));omega)
 have f6:LV.int i64 (IntKind.wrap i64 (at_+1))=LV.int i64 (at_+1):=by simp (disch:=omega)
 have f7:=R1 (n+59) (by omega)
 have f8:=r1 (n+59);have f9:decide (t0<t1)=true:=by simp;omega
 have f10:LV.bool (if decide (t0<t1)=true then decide (Int.tmod t1 2=1) else false)=LV.bool true:=by (simp (disch:=first | omega | (simp;omega));omega)
 exact drn (fun h=>ai (f1)<|ai (f2)<|ai (f3)<|ai (congrArg some f4)<|ai (congrArg some f4)<|ai (congrArg some f4)<|ai (congrArg some f4)<|ai (f5)<|ai (f6)<|ai (f7)<|ai (f8)<|ai (congrArg some f9)<|ai (congrArg some f9)<|ai (congrArg some f9)<|ai (congrArg some f9)<|ai (f10)<|h) (.s (.a) (.s (.a) (.s (.s (.a) (.k (.l (.i (.s (.a) (.s (.k (.s (.r [.a,.a,.a,.v (vOf f1) (.a),.f (rOf f2)]) (.s (.a) (.s (.r [.a,.f (rOf f3)]) (.s (.r [.a,.a,.a,.a,.a,.g true (.a),.g true (.a),.g true (.a),.g true (.a),.v (vOf f5) (.a)]) (.a)))))) (.a))) (.i (.s (.a) (.s (.k (.s (.r [.a,.a,.a,.v (vOf f6) (.a),.f (rOf f7)]) (.s (.a) (.s (.r [.a,.f (rOf f8)]) (.s (.r [.a,.a,.a,.a,.a,.g true (.a),.g true (.a),.g true (.a),.g true (.a),.v (vOf f10) (.a)]) (.a)))))) (.a))) (.a)))))) (.a)))) [] .a (by kernel_rfl)
theorem ro_A1(n:Nat)(rm:Int)(m:ML)(p:PL)(at_:Int)(h0:0<=at_)(h1:at_<=1073741823)(b0 b1:List Int)(t0 t1:Int)(v0 v1:List Int)(g0:0<=t0)(g1:0<=t1)(hn:300<n)(R0:∀ j,300<j->Z6 prog C0 (Z3 prog C0 (j+40)) (j+40) 50 [rR rm m p,.int .i64 at_] ⟨0,[]⟩=some (.tup [.isl 1 (bys b0),.int .i64 0],⟨0,[]⟩))(R1:∀ j,300<j->Z6 prog C0 (Z3 prog C0 (j+40)) (j+40) 50 [rR rm m p,.int .i64 (at_+1)] ⟨0,[]⟩=some (.tup [.isl 1 (bys b1),.int .i64 0],⟨0,[]⟩))(r0:∀ k,Z6 prog C0 (Z3 prog C0 (k+40)) (k+40) 51 [.isl 1 (bys b0)] ⟨0,[]⟩=some (.tup [.int .i64 t0,.isl 1 (bys v0)],⟨0,[]⟩))(r1:∀ k,Z6 prog C0 (Z3 prog C0 (k+40)) (k+40) 51 [.isl 1 (bys b1)] ⟨0,[]⟩=some (.tup [.int .i64 t1,.isl 1 (bys v1)],⟨0,[]⟩))(e0:t0 % 2=0)(e1:¬ t1 % 2=1)(e2:0<t0)(e3:t0<t1):
  Z6 prog C0 (Z3 prog C0 (n+100)) (n+100) 10 [rR rm m p,.int .i64 at_] ⟨0,[]⟩=some (.tup [sR rm m p at_ t0 v0 false,.int .i64 0],⟨0,[]⟩):=by
 have f1:LV.int i64 (IntKind.wrap i64 (at_+0))=LV.int i64 at_:=by simp (disch:=omega)
 have f2:=R0 (n+59) (by omega)
 have f3:=r0 (n+59);have f4:decide (0<t0)=true:=by simp;omega
 have f5:LV.bool (if decide (0<t0)=true then decide (Int.tmod t0 2=0) else false)=LV.bool true:=by (simp (disch:=first | omega | (simp;omega));omega)
 have f6:LV.int i64 (IntKind.wrap i64 (at_+1))=LV.int i64 (at_+1):=by simp (disch:=omega)
 have f7:=R1 (n+59) (by omega)
 have f8:=r1 (n+59);have f9:decide (t0<t1)=true:=by simp;omega
 have f10:LV.bool (if decide (t0<t1)=true then decide (Int.tmod t1 2=1) else false)=LV.bool false:=by (simp (disch:=first | omega | (simp;omega));omega)
 exact drn (fun h=>ai (f1)<|ai (f2)<|ai (f3)<|ai (congrArg some f4)<|ai (congrArg some f4)<|ai (congrArg some f4)<|ai (congrArg some f4)<|ai (f5)<|ai (f6)<|ai (f7)<|ai (f8)<|ai (congrArg some f9)<|ai (congrArg some f9)<|ai (congrArg some f9)<|ai (congrArg some f9)<|ai (f10)<|h) (.s (.a) (.s (.a) (.s (.s (.a) (.k (.l (.i (.s (.a) (.s (.k (.s (.r [.a,.a,.a,.v (vOf f1) (.a),.f (rOf f2)]) (.s (.a) (.s (.r [.a,.f (rOf f3)]) (.s (.r [.a,.a,.a,.a,.a,.g true (.a),.g true (.a),.g true (.a),.g true (.a),.v (vOf f5) (.a)]) (.a)))))) (.a))) (.i (.s (.a) (.s (.k (.s (.r [.a,.a,.a,.v (vOf f6) (.a),.f (rOf f7)]) (.s (.a) (.s (.r [.a,.f (rOf f8)]) (.s (.r [.a,.a,.a,.a,.a,.g true (.a),.g true (.a),.g true (.a),.g true (.a),.v (vOf f10) (.a)]) (.a)))))) (.a))) (.a)))))) (.a)))) [] .a (by kernel_rfl)
theorem ro_A2(n:Nat)(rm:Int)(m:ML)(p:PL)(at_:Int)(h0:0<=at_)(h1:at_<=1073741823)(b0 b1:List Int)(t0 t1:Int)(v0 v1:List Int)(g0:0<=t0)(g1:0<=t1)(hn:300<n)(R0:∀ j,300<j->Z6 prog C0 (Z3 prog C0 (j+40)) (j+40) 50 [rR rm m p,.int .i64 at_] ⟨0,[]⟩=some (.tup [.isl 1 (bys b0),.int .i64 0],⟨0,[]⟩))(R1:∀ j,300<j->Z6 prog C0 (Z3 prog C0 (j+40)) (j+40) 50 [rR rm m p,.int .i64 (at_+1)] ⟨0,[]⟩=some (.tup [.isl 1 (bys b1),.int .i64 0],⟨0,[]⟩))(r0:∀ k,Z6 prog C0 (Z3 prog C0 (k+40)) (k+40) 51 [.isl 1 (bys b0)] ⟨0,[]⟩=some (.tup [.int .i64 t0,.isl 1 (bys v0)],⟨0,[]⟩))(r1:∀ k,Z6 prog C0 (Z3 prog C0 (k+40)) (k+40) 51 [.isl 1 (bys b1)] ⟨0,[]⟩=some (.tup [.int .i64 t1,.isl 1 (bys v1)],⟨0,[]⟩))(e0:t0 % 2=0)(e2:0<t0)(e3:t1<=t0):
  Z6 prog C0 (Z3 prog C0 (n+100)) (n+100) 10 [rR rm m p,.int .i64 at_] ⟨0,[]⟩=some (.tup [sR rm m p at_ t0 v0 false,.int .i64 0],⟨0,[]⟩):=by
 have f1:LV.int i64 (IntKind.wrap i64 (at_+0))=LV.int i64 at_:=by simp (disch:=omega)
 have f2:=R0 (n+59) (by omega)
 have f3:=r0 (n+59);have f4:decide (0<t0)=true:=by simp;omega
 have f5:LV.bool (if decide (0<t0)=true then decide (Int.tmod t0 2=0) else false)=LV.bool true:=by (simp (disch:=first | omega | (simp;omega));omega)
 have f6:LV.int i64 (IntKind.wrap i64 (at_+1))=LV.int i64 (at_+1):=by simp (disch:=omega)
 have f7:=R1 (n+59) (by omega)
 have f8:=r1 (n+59);have f9:decide (t0<t1)=false:=by simp;omega
 have f10:Xf (decide (t0<t1)) LV.any (LV.bool false)=some (LV.bool false):=by simp;omega
 exact drn (fun h=>ai (f1)<|ai (f2)<|ai (f3)<|ai (congrArg some f4)<|ai (congrArg some f4)<|ai (congrArg some f4)<|ai (congrArg some f4)<|ai (f5)<|ai (f6)<|ai (f7)<|ai (f8)<|ai (congrArg some f9)<|ai (congrArg some f9)<|ai (congrArg some f9)<|ai (congrArg some f9)<|ai (Y3 (st:=(St.mk 3 [(0,LObj.box 36 [.int i64 rm,.isl 2 (Z1 m),.isl 3 (Z5 p)]),(1,LObj.box 39 [.int i64 0,.nils,.nils,.int i64 0,.int i64 0,.nils,.bool false]),(2,LObj.box 39 [.int i64 rm,.isl 2 (Z1 m),.isl 3 (Z5 p),.int i64 at_,.int i64 t0,.isl 1 (bys v0),.bool false])])) f10)<|h) (.s (.a) (.s (.a) (.s (.s (.a) (.k (.l (.i (.s (.a) (.s (.k (.s (.r [.a,.a,.a,.v (vOf f1) (.a),.f (rOf f2)]) (.s (.a) (.s (.r [.a,.f (rOf f3)]) (.s (.r [.a,.a,.a,.a,.a,.g true (.a),.g true (.a),.g true (.a),.g true (.a),.v (vOf f5) (.a)]) (.a)))))) (.a))) (.i (.s (.a) (.s (.k (.s (.r [.a,.a,.a,.v (vOf f6) (.a),.f (rOf f7)]) (.s (.a) (.s (.r [.a,.f (rOf f8)]) (.s (.r [.a,.a,.a,.a,.a,.g false (.a),.g false (.a),.g false (.a),.g false (.a),.t (rOf (Y3 (st:=(St.mk 3 [(0,LObj.box 36 [.int i64 rm,.isl 2 (Z1 m),.isl 3 (Z5 p)]),(1,LObj.box 39 [.int i64 0,.nils,.nils,.int i64 0,.int i64 0,.nils,.bool false]),(2,LObj.box 39 [.int i64 rm,.isl 2 (Z1 m),.isl 3 (Z5 p),.int i64 at_,.int i64 t0,.isl 1 (bys v0),.bool false])])) f10))]) (.a)))))) (.a))) (.a)))))) (.a)))) [] .a (by kernel_rfl)
theorem ro_B(n:Nat)(rm:Int)(m:ML)(p:PL)(at_:Int)(h0:0<=at_)(h1:at_<=1073741823)(b0 b1:List Int)(t0 t1:Int)(v0 v1:List Int)(g0:0<=t0)(g1:0<=t1)(hn:300<n)(R0:∀ j,300<j->Z6 prog C0 (Z3 prog C0 (j+40)) (j+40) 50 [rR rm m p,.int .i64 at_] ⟨0,[]⟩=some (.tup [.isl 1 (bys b0),.int .i64 0],⟨0,[]⟩))(R1:∀ j,300<j->Z6 prog C0 (Z3 prog C0 (j+40)) (j+40) 50 [rR rm m p,.int .i64 (at_+1)] ⟨0,[]⟩=some (.tup [.isl 1 (bys b1),.int .i64 0],⟨0,[]⟩))(r0:∀ k,Z6 prog C0 (Z3 prog C0 (k+40)) (k+40) 51 [.isl 1 (bys b0)] ⟨0,[]⟩=some (.tup [.int .i64 t0,.isl 1 (bys v0)],⟨0,[]⟩))(r1:∀ k,Z6 prog C0 (Z3 prog C0 (k+40)) (k+40) 51 [.isl 1 (bys b1)] ⟨0,[]⟩=some (.tup [.int .i64 t1,.isl 1 (bys v1)],⟨0,[]⟩))(e0:¬ (t0 % 2=0/\0<t0))(e1:t1 % 2=1)(e3:0<t1):
  Z6 prog C0 (Z3 prog C0 (n+100)) (n+100) 10 [rR rm m p,.int .i64 at_] ⟨0,[]⟩=some (.tup [sR rm m p at_ t1 v1 false,.int .i64 0],⟨0,[]⟩):=by
 by_cases q:0<t0
 ·have q2:¬ t0 % 2=0:=fun h=>e0 ⟨h,q⟩
  have f1:LV.int i64 (IntKind.wrap i64 (at_+0))=LV.int i64 at_:=by simp (disch:=omega)
  have f2:=R0 (n+59) (by omega)
  have f3:=r0 (n+59);have f4:decide (0<t0)=true:=by simp;omega
  have f5:LV.bool (if decide (0<t0)=true then decide (Int.tmod t0 2=0) else false)=LV.bool false:=by (simp (disch:=first | omega | (simp;omega));omega)
  have f6:LV.int i64 (IntKind.wrap i64 (at_+1))=LV.int i64 (at_+1):=by simp (disch:=omega)
  have f7:=R1 (n+59) (by omega)
  have f8:=r1 (n+59);have f9:decide (0<t1)=true:=by simp;omega
  have f10:LV.bool (if decide (0<t1)=true then decide (Int.tmod t1 2=1) else false)=LV.bool true:=by (simp (disch:=first | omega | (simp;omega));omega)
  exact drn (fun h=>ai (f1)<|ai (f2)<|ai (f3)<|ai (congrArg some f4)<|ai (congrArg some f4)<|ai (congrArg some f4)<|ai (congrArg some f4)<|ai (f5)<|ai (f6)<|ai (f7)<|ai (f8)<|ai (congrArg some f9)<|ai (congrArg some f9)<|ai (congrArg some f9)<|ai (congrArg some f9)<|ai (f10)<|h) (.s (.a) (.s (.a) (.s (.s (.a) (.k (.l (.i (.s (.a) (.s (.k (.s (.r [.a,.a,.a,.v (vOf f1) (.a),.f (rOf f2)]) (.s (.a) (.s (.r [.a,.f (rOf f3)]) (.s (.r [.a,.a,.a,.a,.a,.g true (.a),.g true (.a),.g true (.a),.g true (.a),.v (vOf f5) (.a)]) (.a)))))) (.a))) (.i (.s (.a) (.s (.k (.s (.r [.a,.a,.a,.v (vOf f6) (.a),.f (rOf f7)]) (.s (.a) (.s (.r [.a,.f (rOf f8)]) (.s (.r [.a,.a,.a,.a,.a,.g true (.a),.g true (.a),.g true (.a),.g true (.a),.v (vOf f10) (.a)]) (.a)))))) (.a))) (.a)))))) (.a)))) [] .a (by kernel_rfl)
 ·have q2:t0=0:=by omega
  subst q2;have f1:LV.int i64 (IntKind.wrap i64 (at_+0))=LV.int i64 at_:=by simp (disch:=omega)
  have f2:=R0 (n+59) (by omega)
  have f3:=r0 (n+59);have f4:LV.int i64 (IntKind.wrap i64 (at_+1))=LV.int i64 (at_+1):=by simp (disch:=omega)
  have f5:=R1 (n+59) (by omega)
  have f6:=r1 (n+59);have f7:decide (0<t1)=true:=by simp;omega
  have f8:LV.bool (if decide (0<t1)=true then decide (Int.tmod t1 2=1) else false)=LV.bool true:=by (simp (disch:=first | omega | (simp;omega));omega)
  exact drn (fun h=>ai (f1)<|ai (f2)<|ai (f3)<|ai (f4)<|ai (f5)<|ai (f6)<|ai (congrArg some f7)<|ai (congrArg some f7)<|ai (congrArg some f7)<|ai (congrArg some f7)<|ai (f8)<|h) (.s (.a) (.s (.a) (.s (.s (.a) (.k (.l (.i (.s (.a) (.s (.k (.s (.r [.a,.a,.a,.v (vOf f1) (.a),.f (rOf f2)]) (.s (.a) (.s (.r [.a,.f (rOf f3)]) (.a))))) (.a))) (.i (.s (.a) (.s (.k (.s (.r [.a,.a,.a,.v (vOf f4) (.a),.f (rOf f5)]) (.s (.a) (.s (.r [.a,.f (rOf f6)]) (.s (.r [.a,.a,.a,.a,.a,.g true (.a),.g true (.a),.g true (.a),.g true (.a),.v (vOf f8) (.a)]) (.a)))))) (.a))) (.a)))))) (.a)))) [] .a (by kernel_rfl)
theorem ro_N(n:Nat)(rm:Int)(m:ML)(p:PL)(at_:Int)(h0:0<=at_)(h1:at_<=1073741823)(b0 b1:List Int)(t0 t1:Int)(v0 v1:List Int)(g0:0<=t0)(g1:0<=t1)(hn:300<n)(R0:∀ j,300<j->Z6 prog C0 (Z3 prog C0 (j+40)) (j+40) 50 [rR rm m p,.int .i64 at_] ⟨0,[]⟩=some (.tup [.isl 1 (bys b0),.int .i64 0],⟨0,[]⟩))(R1:∀ j,300<j->Z6 prog C0 (Z3 prog C0 (j+40)) (j+40) 50 [rR rm m p,.int .i64 (at_+1)] ⟨0,[]⟩=some (.tup [.isl 1 (bys b1),.int .i64 0],⟨0,[]⟩))(r0:∀ k,Z6 prog C0 (Z3 prog C0 (k+40)) (k+40) 51 [.isl 1 (bys b0)] ⟨0,[]⟩=some (.tup [.int .i64 t0,.isl 1 (bys v0)],⟨0,[]⟩))(r1:∀ k,Z6 prog C0 (Z3 prog C0 (k+40)) (k+40) 51 [.isl 1 (bys b1)] ⟨0,[]⟩=some (.tup [.int .i64 t1,.isl 1 (bys v1)],⟨0,[]⟩))(e0:¬ (t0 % 2=0/\0<t0))(e1:¬ (t1 % 2=1/\0<t1)):
  Z6 prog C0 (Z3 prog C0 (n+100)) (n+100) 10 [rR rm m p,.int .i64 at_] ⟨0,[]⟩=some (.tup [sR rm m p at_ 0 [] false,.int .i64 0],⟨0,[]⟩):=by
 by_cases q:0<t0
 ·have q2:¬ t0 % 2=0:=fun h=>e0 ⟨h,q⟩
  by_cases z:0<t1
  ·have z2:¬ t1 % 2=1:=fun h=>e1 ⟨h,z⟩
   have f1:LV.int i64 (IntKind.wrap i64 (at_+0))=LV.int i64 at_:=by simp (disch:=omega)
   have f2:=R0 (n+59) (by omega)
   have f3:=r0 (n+59);have f4:decide (0<t0)=true:=by simp;omega
   have f5:LV.bool (if decide (0<t0)=true then decide (Int.tmod t0 2=0) else false)=LV.bool false:=by (simp (disch:=first | omega | (simp;omega));omega)
   have f6:LV.int i64 (IntKind.wrap i64 (at_+1))=LV.int i64 (at_+1):=by simp (disch:=omega)
   have f7:=R1 (n+59) (by omega)
   have f8:=r1 (n+59);have f9:decide (0<t1)=true:=by simp;omega
   have f10:LV.bool (if decide (0<t1)=true then decide (Int.tmod t1 2=1) else false)=LV.bool false:=by (simp (disch:=first | omega | (simp;omega));omega)
   exact drn (fun h=>ai (f1)<|ai (f2)<|ai (f3)<|ai (congrArg some f4)<|ai (congrArg some f4)<|ai (congrArg some f4)<|ai (congrArg some f4)<|ai (f5)<|ai (f6)<|ai (f7)<|ai (f8)<|ai (congrArg some f9)<|ai (congrArg some f9)<|ai (congrArg some f9)<|ai (congrArg some f9)<|ai (f10)<|h) (.s (.a) (.s (.a) (.s (.s (.a) (.k (.l (.i (.s (.a) (.s (.k (.s (.r [.a,.a,.a,.v (vOf f1) (.a),.f (rOf f2)]) (.s (.a) (.s (.r [.a,.f (rOf f3)]) (.s (.r [.a,.a,.a,.a,.a,.g true (.a),.g true (.a),.g true (.a),.g true (.a),.v (vOf f5) (.a)]) (.a)))))) (.a))) (.i (.s (.a) (.s (.k (.s (.r [.a,.a,.a,.v (vOf f6) (.a),.f (rOf f7)]) (.s (.a) (.s (.r [.a,.f (rOf f8)]) (.s (.r [.a,.a,.a,.a,.a,.g true (.a),.g true (.a),.g true (.a),.g true (.a),.v (vOf f10) (.a)]) (.a)))))) (.a))) (.a)))))) (.a)))) [] .a (by kernel_rfl)
  ·have z2:t1=0:=by omega
   subst z2;have f1:LV.int i64 (IntKind.wrap i64 (at_+0))=LV.int i64 at_:=by simp (disch:=omega)
   have f2:=R0 (n+59) (by omega)
   have f3:=r0 (n+59);have f4:decide (0<t0)=true:=by simp;omega
   have f5:LV.bool (if decide (0<t0)=true then decide (Int.tmod t0 2=0) else false)=LV.bool false:=by (simp (disch:=first | omega | (simp;omega));omega)
   have f6:LV.int i64 (IntKind.wrap i64 (at_+1))=LV.int i64 (at_+1):=by simp (disch:=omega)
   have f7:=R1 (n+59) (by omega)
   have f8:=r1 (n+59);exact drn (fun h=>ai (f1)<|ai (f2)<|ai (f3)<|ai (congrArg some f4)<|ai (congrArg some f4)<|ai (congrArg some f4)<|ai (congrArg some f4)<|ai (f5)<|ai (f6)<|ai (f7)<|ai (f8)<|h) (.s (.a) (.s (.a) (.s (.s (.a) (.k (.l (.i (.s (.a) (.s (.k (.s (.r [.a,.a,.a,.v (vOf f1) (.a),.f (rOf f2)]) (.s (.a) (.s (.r [.a,.f (rOf f3)]) (.s (.r [.a,.a,.a,.a,.a,.g true (.a),.g true (.a),.g true (.a),.g true (.a),.v (vOf f5) (.a)]) (.a)))))) (.a))) (.i (.s (.a) (.s (.k (.s (.r [.a,.a,.a,.v (vOf f6) (.a),.f (rOf f7)]) (.s (.a) (.s (.r [.a,.f (rOf f8)]) (.a))))) (.a))) (.a)))))) (.a)))) [] .a (by kernel_rfl)
 ·have q2:t0=0:=by omega
  subst q2
  by_cases z:0<t1
  ·have z2:¬ t1 % 2=1:=fun h=>e1 ⟨h,z⟩
   have f1:LV.int i64 (IntKind.wrap i64 (at_+0))=LV.int i64 at_:=by simp (disch:=omega)
   have f2:=R0 (n+59) (by omega)
   have f3:=r0 (n+59);have f4:LV.int i64 (IntKind.wrap i64 (at_+1))=LV.int i64 (at_+1):=by simp (disch:=omega)
   have f5:=R1 (n+59) (by omega)
   have f6:=r1 (n+59);have f7:decide (0<t1)=true:=by simp;omega
   have f8:LV.bool (if decide (0<t1)=true then decide (Int.tmod t1 2=1) else false)=LV.bool false:=by (simp (disch:=first | omega | (simp;omega));omega)
   exact drn (fun h=>ai (f1)<|ai (f2)<|ai (f3)<|ai (f4)<|ai (f5)<|ai (f6)<|ai (congrArg some f7)<|ai (congrArg some f7)<|ai (congrArg some f7)<|ai (congrArg some f7)<|ai (f8)<|h) (.s (.a) (.s (.a) (.s (.s (.a) (.k (.l (.i (.s (.a) (.s (.k (.s (.r [.a,.a,.a,.v (vOf f1) (.a),.f (rOf f2)]) (.s (.a) (.s (.r [.a,.f (rOf f3)]) (.a))))) (.a))) (.i (.s (.a) (.s (.k (.s (.r [.a,.a,.a,.v (vOf f4) (.a),.f (rOf f5)]) (.s (.a) (.s (.r [.a,.f (rOf f6)]) (.s (.r [.a,.a,.a,.a,.a,.g true (.a),.g true (.a),.g true (.a),.g true (.a),.v (vOf f8) (.a)]) (.a)))))) (.a))) (.a)))))) (.a)))) [] .a (by kernel_rfl)
  ·have z2:t1=0:=by omega
   subst z2;have f1:LV.int i64 (IntKind.wrap i64 (at_+0))=LV.int i64 at_:=by simp (disch:=omega)
   have f2:=R0 (n+59) (by omega)
   have f3:=r0 (n+59);have f4:LV.int i64 (IntKind.wrap i64 (at_+1))=LV.int i64 (at_+1):=by simp (disch:=omega)
   have f5:=R1 (n+59) (by omega)
   have f6:=r1 (n+59);exact drn (fun h=>ai (f1)<|ai (f2)<|ai (f3)<|ai (f4)<|ai (f5)<|ai (f6)<|h) (.s (.a) (.s (.a) (.s (.s (.a) (.k (.l (.i (.s (.a) (.s (.k (.s (.r [.a,.a,.a,.v (vOf f1) (.a),.f (rOf f2)]) (.s (.a) (.s (.r [.a,.f (rOf f3)]) (.a))))) (.a))) (.i (.s (.a) (.s (.k (.s (.r [.a,.a,.a,.v (vOf f4) (.a),.f (rOf f5)]) (.s (.a) (.s (.r [.a,.f (rOf f6)]) (.a))))) (.a))) (.a)))))) (.a)))) [] .a (by kernel_rfl)
theorem ro_any(n:Nat)(rm:Int)(m:ML)(p:PL)(at_:Int)(h0:0<=at_)(h1:at_<=1073741823)(b0 b1:List Int)(t0 t1:Int)(v0 v1:List Int)(g0:0<=t0)(g1:0<=t1)(hn:300<n)(R0:∀ j,300<j->Z6 prog C0 (Z3 prog C0 (j+40)) (j+40) 50 [rR rm m p,.int .i64 at_] ⟨0,[]⟩=some (.tup [.isl 1 (bys b0),.int .i64 0],⟨0,[]⟩))(R1:∀ j,300<j->Z6 prog C0 (Z3 prog C0 (j+40)) (j+40) 50 [rR rm m p,.int .i64 (at_+1)] ⟨0,[]⟩=some (.tup [.isl 1 (bys b1),.int .i64 0],⟨0,[]⟩))(r0:∀ k,Z6 prog C0 (Z3 prog C0 (k+40)) (k+40) 51 [.isl 1 (bys b0)] ⟨0,[]⟩=some (.tup [.int .i64 t0,.isl 1 (bys v0)],⟨0,[]⟩))(r1:∀ k,Z6 prog C0 (Z3 prog C0 (k+40)) (k+40) 51 [.isl 1 (bys b1)] ⟨0,[]⟩=some (.tup [.int .i64 t1,.isl 1 (bys v1)],⟨0,[]⟩)):
  Z6 prog C0 (Z3 prog C0 (n+100)) (n+100) 10 [rR rm m p,.int .i64 at_] ⟨0,[]⟩=some (.tup [sR rm m p at_ (opT t0 t1 v0 v1).1 (opT t0 t1 v0 v1).2 false,.int .i64 0],⟨0,[]⟩):=by
 unfold opT
 by_cases A:t0 % 2=0/\0<t0
 ·rw [if_pos A]
  by_cases B:t1 % 2=1/\t0<t1
  ·rw [if_pos B];exact ro_AB n rm m p at_ h0 h1 b0 b1 t0 t1 v0 v1 g0 g1 hn R0 R1 r0 r1 A.1 B.1 A.2 B.2
  ·rw [if_neg B]
   by_cases q:t0<t1
   ·exact ro_A1 n rm m p at_ h0 h1 b0 b1 t0 t1 v0 v1 g0 g1 hn R0 R1 r0 r1 A.1 (fun h=>B ⟨h,q⟩) A.2 q
   ·exact ro_A2 n rm m p at_ h0 h1 b0 b1 t0 t1 v0 v1 g0 g1 hn R0 R1 r0 r1 A.1 A.2 (by omega)
 ·rw [if_neg A]
  by_cases B:t1 % 2=1/\0<t1
  ·rw [if_pos B];exact ro_B n rm m p at_ h0 h1 b0 b1 t0 t1 v0 v1 g0 g1 hn R0 R1 r0 r1 A B.1 B.2
  ·rw [if_neg B];exact ro_N n rm m p at_ h0 h1 b0 b1 t0 t1 v0 v1 g0 g1 hn R0 R1 r0 r1 A B
theorem ro_new(n:Nat)(rm at_:Int)(h0:0<=at_)(h1:at_<=1073741823)(hn:300<n)(r0:∀ k,Z6 prog C0 (Z3 prog C0 (k+40)) (k+40) 51 [.isl 1 (bys (List.replicate 64 0))] ⟨0,[]⟩=some (.tup [.int .i64 0,.isl 1 (bys [])],⟨0,[]⟩)):
  Z6 prog C0 (Z3 prog C0 (n+100)) (n+100) 10 [rNil rm,.int .i64 at_] ⟨0,[]⟩=some (.tup [sR rm [] [] at_ 0 [] false,.int .i64 0],⟨0,[]⟩):=by
 have f1:LV.int i64 (IntKind.wrap i64 (at_+0))=LV.int i64 at_:=by simp (disch:=omega)
 have f2:=rread_nil (n+59) rm at_ h0 (by omega) (by omega)
 have f3:=r0 (n+59);have f4:LV.int i64 (IntKind.wrap i64 (at_+1))=LV.int i64 (at_+1):=by simp (disch:=omega)
 have f5:=rread_nil (n+59) rm (at_+1) (by omega) (by omega) (by omega)
 have f6:=r0 (n+59);exact drn (fun h=>ai (f1)<|ai (f2)<|ai (f3)<|ai (f4)<|ai (f5)<|ai (f6)<|h) (.s (.a) (.s (.a) (.s (.s (.a) (.k (.l (.i (.s (.a) (.s (.k (.s (.r [.a,.a,.a,.v (vOf f1) (.a),.f (rOf f2)]) (.s (.a) (.s (.r [.a,.f (rOf f3)]) (.a))))) (.a))) (.i (.s (.a) (.s (.k (.s (.r [.a,.a,.a,.v (vOf f4) (.a),.f (rOf f5)]) (.s (.a) (.s (.r [.a,.f (rOf f6)]) (.a))))) (.a))) (.a)))))) (.a)))) [] .a (by kernel_rfl)
theorem ro_bad(n:Nat)(rm at_:Int)(h:at_<0∨1073741824<at_)(h2:at_<=1099511627776)(h3:-9223372036854775808<=at_):
  Z6 prog C0 (Z3 prog C0 (n+100)) (n+100) 10 [rNil rm,.int .i64 at_] ⟨0,[]⟩=some (.tup [sR rm [] [] 0 0 [] false,.int .i64 2],⟨0,[]⟩):=by
 have B:=fun k=>rread_badN k rm at_ h
 have f1:LV.int i64 (IntKind.wrap i64 (at_+0))=LV.int i64 at_:=by simp (disch:=omega)
 have f2:=B (n+59);exact drn (fun h=>ai (f1)<|ai (f2)<|h) (.s (.a) (.s (.a) (.s (.s (.a) (.k (.l (.i (.s (.a) (.s (.k (.s (.r [.a,.a,.a,.v (vOf f1) (.a),.f (rOf f2)]) (.a))) .a)) (.a))))) .a))) [] .a (by kernel_rfl)
theorem ro_bad1(n:Nat)(rm:Int)(hn:300<n)(r0:∀ k,Z6 prog C0 (Z3 prog C0 (k+40)) (k+40) 51 [.isl 1 (bys (List.replicate 64 0))] ⟨0,[]⟩=some (.tup [.int .i64 0,.isl 1 (bys [])],⟨0,[]⟩)):
  Z6 prog C0 (Z3 prog C0 (n+100)) (n+100) 10 [rNil rm,.int .i64 1073741824] ⟨0,[]⟩=some (.tup [sR rm [] [] 0 0 [] false,.int .i64 2],⟨0,[]⟩):=by
 have A:=fun k (hk:100<k)=>rread_nil k rm 1073741824 (by omega) (by omega) hk
 have B:=fun k=>rread_badN k rm 1073741825 (by omega)
 have f1:=A (n+59) (by omega)
 have f2:=r0 (n+59);have f3:=B (n+59);exact drn (fun h=>ai (f1)<|ai (f2)<|ai (f3)<|h) (.s (.a) (.s (.a) (.s (.s (.a) (.k (.l (.i (.s (.a) (.s (.k (.s (.r [.a,.a,.a,.a,.f (rOf f1)]) (.s (.a) (.s (.r [.a,.f (rOf f2)]) (.a))))) (.a))) (.i (.s (.a) (.s (.k (.s (.r [.a,.a,.a,.a,.f (rOf f3)]) (.a))) .a)) (.a)))))) .a))) [] .a (by kernel_rfl)
def byM(m:ML):Prop:=∀ x∈m,byB x.2
def byQ(p:PL):Prop:=∀ x∈p,∀ b,x.2=some b->byB b
theorem byM.put{m:ML}(h:byM m)(a:Int){b:List Int}(hb:byB b):byM (W6 m a b):=fun x hx=>(mput2_val hx).elim (h x) (by rintro rfl;exact hb)
theorem byM.del{m:ML}(h:byM m)(a:Int):byM (mdel m a):=fun x hx=>h x ((mdel_sub a m).subset hx)
theorem byM.apply:∀ {p:PL} {m:ML},byQ p->byM m->byM (applyM p m)
 | [],m,_,h=>h
 | (a,some b)::q,m,hp,h=>byM.apply (p:=q) (fun x hx=>hp x (by simp [hx])) (h.put a (hp (a,some b) (by simp) b rfl))
 | (a,none)::q,m,hp,h=>byM.apply (p:=q) (fun x hx=>hp x (by simp [hx])) (h.del a)
theorem byB.splice{l c:List Int}(h:byB l)(k:byB c)(o:Nat):byB (Ze l o c):=((h.take o).app k).app (h.drop _)
theorem byB.blk{b:List Int}(h:byB b):byB (blk b):=byB.splice (byB.rep 64) (h.take _) 0
theorem byM.mget{m:ML}(h:byM m){a:Int}{b:List Int}(hg:mget m a=some b):byB b:=by
 induction m with
 | nil=>simp [Mac.mget] at hg
 | cons x m ih =>
  obtain ⟨k,v⟩:=x
  simp only [Mac.mget] at hg
  split at hg
  ·injection hg with hg;subst hg;exact h (k,v) (by simp)
  ·exact ih (fun y hy=>h y (by simp [hy])) hg
theorem byM.cur{m:ML}(h:byM m)(a:Int):byB (cur m a):=by
 unfold Mac.cur
 split
 ·rename_i c hc;exact (h.mget hc).blk
 ·exact byB.rep 64
theorem byM.step{m:ML}(h:byM m)(ks:List Int)(cut last:Int)(k:Nat)(x:Int × Option (List Int))(hx:∀ b,x.2=some b->byB b):byM (stepM ks cut last k m x):=by
 unfold stepM
 split
 ·exact h
 ·obtain ⟨n,o⟩:=x
  cases o with
  | none=>exact h.del n
  | some b =>
   have hb:=hx b rfl;simp only
   split
   ·exact h.put n ((h.cur n).splice (hb.take _) 0)
   ·exact h.put n hb
theorem byM.crashM(ks:List Int)(cut last:Int):∀ (p:PL) (k:Nat) (m:ML),byQ p->byM m->byM (crashM ks cut last p k m)
 | [],k,m,_,h=>h
 | x::q,k,m,hp,h=>byM.crashM ks cut last q (k+1) _ (fun y hy=>hp y (by simp [hy])) (h.step ks cut last k x (hp x (by simp)))
theorem byM.crash{m:ML}{p:PL}(h:byM m)(hq:byQ p)(ks:List Int)(cut:Int):byM (V6 m p ks cut):=byM.crashM ks cut _ p 0 m hq h
theorem byQ.last{p:PL}(h:byQ p){a:Int}{b:List Int}(hg:lastW a p=some (some b)):byB b:=by
 induction p with
 | nil=>simp [lastW] at hg
 | cons x p ih =>
  obtain ⟨k,v⟩:=x
  simp only [lastW] at hg;have ih':=ih (fun y hy=>h y (by simp [hy]))
  split at hg
  ·rename_i z hz;rw [hz] at ih';exact ih' hg
  ·split at hg
   ·injection hg with hg;exact h (k,v) (by simp) b hg
   ·simp at hg
theorem by_rd{m:ML}{p:PL}(h:byM m)(hq:byQ p)(a:Int):byB (rd m p a):=by
 have hn:byB (Mac.blk []):=byB.blk (fun x hx=>by simp at hx)
 unfold rd
 split
 ·rename_i b hb;exact (hq.last hb).blk
 ·exact hn
 ·split
  ·rename_i b hb;exact (h.mget hb).blk
  ·exact hn
theorem byQ.snoc{p:PL}(h:byQ p)(a:Int){b:List Int}(hb:byB b):byQ (p++[(a,some b)]):=by
 intro x hx c hc
 rcases List.mem_append.1 hx with hx | hx
 ·exact h x hx c hc
 ·simp at hx;subst hx;injection hc with hc;subst hc;exact hb
def encR(t:Int)(v:List Int):List Int:=(V9 t++(v.length:Int)::v++List.replicate (47-v.length) 0)++V9 t
theorem w8_eq(n:Int)(h:0<=n):w8 n=n % 256:=by show IntKind.u8.wrap n=_;rw [wrap_u8]
theorem sh_eq(n:Int)(h:0<=n):sh n=n/256:=Int.fdiv_eq_ediv_of_nonneg _ (by omega)
theorem enc_key(a b c d e f g h n:Int):((((((((((((((((((List.replicate 64 (0:Int)).set 7 h).set 63 h).set 6 g).set 62 g).set 5 f).set 61 f).set 4 e).set 60 e).set 3 d).set 59 d).set 2 c).set 58 c).set 1 b).set 57 b).set 0 a).set 56 a).set 8 n)=([a,b,c,d,e,f,g,h]++[n])++(List.replicate 47 0++[a,b,c,d,e,f,g,h]):=by kernel_rfl
theorem encG_eq(t:Int)(v:List Int)(ht:0<=t)(hv:v.length<=47):encG t v=encR t v:=by
 have e1:=sh_eq t ht;have e2:=sh_eq (t/256) (by omega)
 have e3:=sh_eq (t/256/256) (by omega)
 have e4:=sh_eq (t/256/256/256) (by omega)
 have e5:=sh_eq (t/256/256/256/256) (by omega)
 have e6:=sh_eq (t/256/256/256/256/256) (by omega)
 have e7:=sh_eq (t/256/256/256/256/256/256) (by omega)
 unfold encG chn;rw [e1,e2,e3,e4,e5,e6,e7];rw [w8_eq _ ht,w8_eq (t/256) (by omega),w8_eq (t/256/256) (by omega),w8_eq (t/256/256/256) (by omega),w8_eq (t/256/256/256/256) (by omega),w8_eq (t/256/256/256/256/256) (by omega),w8_eq (t/256/256/256/256/256/256) (by omega),w8_eq (t/256/256/256/256/256/256/256) (by omega)]
 rw [enc_key];have er:[t/256/256/256/256/256/256/256 % 256,t/256/256/256/256/256/256 % 256,t/256/256/256/256/256 % 256,t/256/256/256/256 % 256,t/256/256/256 % 256,t/256/256 % 256,t/256 % 256,t % 256]=V9 t:=rfl;rw [er];unfold Ze encR;have l9:(V9 t++[(v.length:Int)]).length=9:=rfl;rw [List.take_left' l9];have hd:((V9 t++[(v.length:Int)])++(List.replicate 47 0++V9 t)).drop (9+v.length)=List.replicate (47-v.length) 0++V9 t:=by
  rw [<- l9,<- List.drop_drop,List.drop_left,List.drop_append_of_le_length (by simpa using hv),List.drop_replicate]
 rw [hd];simp
theorem encR_length(t:Int)(v:List Int)(hv:v.length<=47):(encR t v).length=64:=by
 simp [encR,rdig_length];omega
theorem rdig_by(t:Int):byB (V9 t):=by
 intro x hx;simp only [V9,List.mem_cons,List.not_mem_nil,or_false] at hx;omega
theorem encR_by(t:Int){v:List Int}(hv:v.length<=47)(h:byB v):byB (encR t v):=by
 refine (((rdig_by t).app ?_).app (byB.rep _)).app (rdig_by t);intro x hx
 rcases List.mem_cons.1 hx with rfl | hx
 ·omega
 ·exact h x hx
theorem rp_loop(n:Nat)(rm:Int)(m:ML)(p:PL)(at_ tn:Int)(w v D:List Int):∀ (j:Nat) (X:List Int) (fu:Nat),X.length+j=56->0<X.length->j<fu ->
  Z2 prog C0 (n+300) 12 1 0 fu (rpE v X.length) (rpS rm m p at_ tn w D X)=some (.exit 2,rpX v (X++List.replicate j 0).length,rpS rm m p at_ tn w D (X++List.replicate j 0))
 | 0,X,fu,h,h0,hf=>by
  obtain ⟨fu,rfl⟩:∃ q,fu=q+1:=⟨fu-1,by omega⟩
  rw [List.replicate_zero,List.append_nil];exact rp_end n fu rm m p at_ tn w v D X (by omega)
 | j+1,X,fu,h,h0,hf=>by
  obtain ⟨fu,rfl⟩:∃ q,fu=q+1:=⟨fu-1,by omega⟩
  have ih:=rp_loop n rm m p at_ tn w v D j (X++[0]) fu (by simp;omega) (by simp) (by omega)
  have e:X++[0]++List.replicate j 0=X++List.replicate (j+1) 0:=by rw [List.append_assoc];rfl
  rw [e,List.length_append] at ih;exact rp_step n fu rm m p at_ tn w v D X (by omega) h0 _ ih
theorem rput10_ok(n:Nat)(rm:Int)(m:ML)(p p':PL)(at_ tn:Int)(w v:List Int)(hv:v.length<=47)(h0:0<=at_)(h1:at_<=1073741823)(ht:0<=tn)(ht2:tn<=2000000000000000000)(hn:300<n)(F:∀ j,300<j->Z6 prog C0 (Z3 prog C0 (j+100)) (j+100) 26 [rR rm m p,.int .i64 (at_+(tn+1) % 2),.isl 1 (bys (encR (tn+1) v))] ⟨0,[]⟩=some (.tup [rR rm m p',.int .i64 0],⟨0,[]⟩)):
  Z6 prog C0 (Z3 prog C0 (n+300)) (n+300) 12 [sR rm m p at_ tn w false,.isl 1 (bys v)] ⟨0,[]⟩=some (.tup [sR rm m p' at_ (tn+1) v true,.int .i64 0],⟨0,[]⟩):=by
 have l9:(V9 (tn+1)++(v.length:Int)::v).length=9+v.length:=by simp [rdig_length];omega
 have L:=rp_loop n rm m p at_ tn w v (V9 (tn+1)) (47-v.length) (V9 (tn+1)++(v.length:Int)::v) (n+300) (by rw [l9];omega) (by rw [l9];omega) (by omega)
 rw [l9] at L;refine rp_thru n rm m p p' at_ tn w v hv h0 h1 ht ht2 hn _ (by simp [rdig_length];omega) L (fun j hj=>?_)
 exact F j hj
theorem rput10_full(n:Nat)(rm:Int)(m:ML)(p:PL)(at_ tn:Int)(w v:List Int)(hv:v.length<=47)(h0:0<=at_)(h1:at_<=1073741823)(ht:0<=tn)(ht2:tn<=2000000000000000000)(hn:300<n)(F:∀ j,300<j->Z6 prog C0 (Z3 prog C0 (j+100)) (j+100) 26 [rR rm m p,.int .i64 (at_+(tn+1) % 2),.isl 1 (bys (encR (tn+1) v))] ⟨0,[]⟩=some (.tup [rR rm m p,.int .i64 7],⟨0,[]⟩)):
  Z6 prog C0 (Z3 prog C0 (n+300)) (n+300) 12 [sR rm m p at_ tn w false,.isl 1 (bys v)] ⟨0,[]⟩=some (.tup [sR rm m p at_ tn w false,.int .i64 7],⟨0,[]⟩):=by
 have l9:(V9 (tn+1)++(v.length:Int)::v).length=9+v.length:=by simp [rdig_length];omega
 have L:=rp_loop n rm m p at_ tn w v (V9 (tn+1)) (47-v.length) (V9 (tn+1)++(v.length:Int)::v) (n+300) (by rw [l9];omega) (by rw [l9];omega) (by omega)
 rw [l9] at L;refine rp_full n rm m p at_ tn w v hv h0 h1 ht ht2 hn _ (by simp [rdig_length];omega) L (fun j hj=>?_)
 exact F j hj
end Go.Mac
namespace Go.Mac
open Go Go.Eng Go.Proofs
open Go.IntKind (i64)
open Go.Proofs.Tryz (prog)
set_option maxHeartbeats 0
set_option maxRecDepth 100000
structure Act4 where
 kind:Int
 b:List Int
 keep:List Int
 cut:Int
def opL(x:Act4):LV:=.agg [.int .i64 x.kind,.isl 1 (bys x.b),.isl 1 (ints x.keep),.int .i64 x.cut]
def Zf(l:List Act4):List LV:=l.map opL
@[simp] theorem opsL_length(l:List Act4):(Zf l).length=l.length:=by simp [Zf]
abbrev liE(l:List Act4)(i:Int):LEnv:=[.isl 4 (Zf l),.any,.any,.int i64 i,.any,.any,.any,.any,.any,.any,.any,
  .any,.any,.any,.any,.any,.any,.any,.any,.any,.any,.any,.any,.any,.any,
  .any,.any,.any,.any]
abbrev liX(l:List Act4)(i:Int):LEnv:=[.isl 4 (Zf l),.any,.any,.int i64 i,.any,.any,.any,.int i64 i,.isl 4 (Zf l),.int i64 l.length,.bool (decide (i<(l.length:Int))),
  .any,.any,.any,.any,.any,.any,.any,.any,.any,.any,.any,.any,.any,.any,
  .any,.any,.any,.any]
abbrev liB1(l:List Act4)(i k:Int)(b ks:List Int)(c:Int):LEnv:=[.isl 4 (Zf l),.any,.bool false,.int i64 i,.any,.any,.any,.int i64 i,.isl 4 (Zf l),.int i64 ↑(Zf l).length,.bool (decide (i < ↑(Zf l).length)),.any,.any,.isl 4 (Zf l),.int i64 i,(LV.agg [.int i64 k,.isl 1 (bys b),.isl 1 (ints ks),.int i64 c]).irp,(LV.isl 1 (bys b)).irp,.isl 1 (bys b),.int i64 ↑(bys b).length,.bool (decide (100 < ↑(bys b).length)),.bool (decide (100 < ↑(bys b).length)),.any,.any,.any,.any,.any,.any,.any,.bool true]
abbrev liB2(l:List Act4)(i k:Int)(b ks:List Int)(c:Int):LEnv:=[.isl 4 (Zf l),.any,.bool false,.int i64 i,.any,.any,.any,.int i64 i,.isl 4 (Zf l),.int i64 ↑(Zf l).length,.bool (decide (i < ↑(Zf l).length)),.any,.any,.isl 4 (Zf l),.int i64 i,(LV.agg [.int i64 k,.isl 1 (bys b),.isl 1 (ints ks),.int i64 c]).irp,(LV.isl 1 (bys b)).irp,.isl 1 (bys b),.int i64 ↑(bys b).length,.bool (decide (100 < ↑(bys b).length)),.bool (decide (100 < ↑(bys b).length)),.isl 4 (Zf l),.int i64 i,(LV.agg [.int i64 k,.isl 1 (bys b),.isl 1 (ints ks),.int i64 c]).irp,(LV.isl 1 (ints ks)).irp,.isl 1 (ints ks),.int i64 ↑(ints ks).length,.bool (decide (20 < ↑(ints ks).length)),.bool true]
theorem light_end(n fu:Nat)(l:List Act4)(hl:l.length<=60)(i:Int)(hi:(l.length:Int)<=i):Z2 prog C0 (n+20) 6 0 0 (fu+1) (liE l i) ⟨0,[]⟩=some (.exit 0,liX l i,⟨0,[]⟩):=by
 have f1:decide (i<((Zf l).length:Int))=false:=by simp;omega
 have f2:(LX.exit 0,[.isl 4 (Zf l),.any,.any,.int i64 i,.any,.any,.any,.int i64 i,.isl 4 (Zf l),.int i64 ((Zf l).length:Int),.bool (decide (i<((Zf l).length:Int))),.any,.any,.any,.any,.any,.any,.any,.any,.any,.any,.any,.any,.any,.any,.any,.any,.any,.any],St.mk 0 [])=(LX.exit 0,liX l i,St.mk 0 []):=by simp
 exact dlp (fun h=>ai (congrArg LV.bool f1)<|f2) (.i (.s (.s (.a) (.b false (.a))) .a) (.a)) (by kernel_rfl)
theorem light_step(n fu:Nat)(l:List Act4)(hl:l.length<=60)(i:Int)(h0:0<=i)(hi:i<(l.length:Int))(k:Int)(b ks:List Int)(c:Int)(hx:(Zf l)[i.toNat]? = some (.agg [.int .i64 k,.isl 1 (bys b),.isl 1 (ints ks),.int .i64 c]))(hb:b.length<=100)(hks:ks.length<=20)(r:LX × LEnv × St)(hr:Z2 prog C0 (n+20) 6 0 0 fu (liE l (i+1)) ⟨0,[]⟩=some r):
  Z2 prog C0 (n+20) 6 0 0 (fu+1) (liE l i) ⟨0,[]⟩=some r:=by
 have f1:decide (i<((Zf l).length:Int))=true:=by simp;omega
 have f2:(Zf l)[i.toNat]? = some (LV.agg [.int i64 k,.isl 1 (bys b),.isl 1 (ints ks),.int i64 c]):=hx;have f3:0<=i/\i<((Zf l).length:Int):=by simp;omega
 have f4:decide (100<((bys b).length:Int))=false:=by simp;omega
 have f5:LV.bool (if decide (100<((bys b).length:Int))=true then true else decide (20<((ints ks).length:Int)))=LV.bool false:=by simp;omega
 have f6:LV.int i64 (IntKind.wrap i64 (i+1))=LV.int i64 (i+1):=by simp (disch:=omega)
 have f7:=hr;exact dlp (fun h=>ai (congrArg LV.bool f1)<|ai (f3)<|ai (f2)<|ai (congrArg some f4)<|ai (congrArg some f4)<|ai (congrArg some f4)<|ai (f3)<|ai (f2)<|ai (congrArg some f4)<|ai (congrArg some f4)<|ai (congrArg some f4)<|ai (congrArg some f4)<|ai (f5)<|ai (f6)<|ai (Eq.refl (Z9 f7))<|ai (f7)<|h) (.i (.s (.s (.a) (.b true (.a))) (.s (.k (.s (.r [.a,.a,.e (rOf f2),.a,.a,.a,.a,.a,.g false (.a),.g false (.a),.g false (.e (rOf f2)),.g false (.a),.g false (.a),.g false (.a),.g false (.a),.v (vOf f5) (.a)]) (.a))) (.r [.a,.v (vOf f6) (.a)]))) (.h [] (eOf f7) (Zp f7) (rOf f7))) (by kernel_rfl)
theorem light_bad1(n fu:Nat)(l:List Act4)(hl:l.length<=60)(i:Int)(h0:0<=i)(hi:i<(l.length:Int))(k:Int)(b ks:List Int)(c:Int)(hx:(Zf l)[i.toNat]? = some (.agg [.int .i64 k,.isl 1 (bys b),.isl 1 (ints ks),.int .i64 c]))(hb:100<b.length):
  Z2 prog C0 (n+20) 6 0 0 (fu+1) (liE l i) ⟨0,[]⟩=some (.ret,liB1 l i k b ks c,⟨0,[]⟩):=by
 have f1:decide (i<((Zf l).length:Int))=true:=by simp;omega
 have f2:(Zf l)[i.toNat]? = some (LV.agg [.int i64 k,.isl 1 (bys b),.isl 1 (ints ks),.int i64 c]):=hx;have f3:0<=i/\i<((Zf l).length:Int):=by simp;omega
 have f4:decide (100<((bys b).length:Int))=true:=by simp;omega
 have f5:Xf (decide (100<((bys b).length:Int))) (LV.bool true) LV.any=some (LV.bool true):=by simp;omega
 have f6:(LX.ret,[.isl 4 (Zf l),.any,.bool false,.int i64 i,.any,.any,.any,.int i64 i,.isl 4 (Zf l),.int i64 ((Zf l).length:Int),.bool (decide (i<((Zf l).length:Int))),.any,.any,.isl 4 (Zf l),.int i64 i,LV.irp (LV.agg [.int i64 k,.isl 1 (bys b),.isl 1 (ints ks),.int i64 c]),LV.irp (LV.isl 1 (bys b)),.isl 1 (bys b),.int i64 ((bys b).length:Int),.bool (decide (100<((bys b).length:Int))),.bool (decide (100<((bys b).length:Int))),.any,.any,.any,.any,.any,.any,.any,.bool true],St.mk 0 [])=(LX.ret,liB1 l i k b ks c,St.mk 0 []):=by simp;omega
 exact dlp (fun h=>ai (congrArg LV.bool f1)<|ai (f3)<|ai (f2)<|ai (congrArg some f4)<|ai (congrArg some f4)<|ai (congrArg some f4)<|ai (congrArg some f4)<|ai (congrArg some f4)<|ai (congrArg some f4)<|ai (congrArg some f4)<|ai (Y3 (st:=(St.mk 0 [])) f5)<|f6) (.i (.s (.s (.a) (.b true (.a))) (.s (.k (.s (.r [.a,.a,.e (rOf f2),.a,.a,.a,.a,.a,.g true (.a),.g true (.a),.g true (.a),.g true (.a),.g true (.a),.g true (.a),.g true (.a),.t (rOf (Y3 (st:=(St.mk 0 [])) f5))]) (.a))) .a)) (.a)) (by kernel_rfl)
theorem light_bad2(n fu:Nat)(l:List Act4)(hl:l.length<=60)(i:Int)(h0:0<=i)(hi:i<(l.length:Int))(k:Int)(b ks:List Int)(c:Int)(hx:(Zf l)[i.toNat]? = some (.agg [.int .i64 k,.isl 1 (bys b),.isl 1 (ints ks),.int .i64 c]))(hb:b.length<=100)(hks:20<ks.length):
  Z2 prog C0 (n+20) 6 0 0 (fu+1) (liE l i) ⟨0,[]⟩=some (.ret,liB2 l i k b ks c,⟨0,[]⟩):=by
 have f1:decide (i<((Zf l).length:Int))=true:=by simp;omega
 have f2:(Zf l)[i.toNat]? = some (LV.agg [.int i64 k,.isl 1 (bys b),.isl 1 (ints ks),.int i64 c]):=hx;have f3:0<=i/\i<((Zf l).length:Int):=by simp;omega
 have f4:decide (100<((bys b).length:Int))=false:=by simp;omega
 have f5:LV.bool (if decide (100<((bys b).length:Int))=true then true else decide (20<((ints ks).length:Int)))=LV.bool true:=by simp;omega
 have f6:(LX.ret,[.isl 4 (Zf l),.any,.bool false,.int i64 i,.any,.any,.any,.int i64 i,.isl 4 (Zf l),.int i64 ((Zf l).length:Int),.bool (decide (i<((Zf l).length:Int))),.any,.any,.isl 4 (Zf l),.int i64 i,LV.irp (LV.agg [.int i64 k,.isl 1 (bys b),.isl 1 (ints ks),.int i64 c]),LV.irp (LV.isl 1 (bys b)),.isl 1 (bys b),.int i64 ((bys b).length:Int),.bool (decide (100<((bys b).length:Int))),.bool (decide (100<((bys b).length:Int))),.isl 4 (Zf l),.int i64 i,LV.irp (LV.agg [.int i64 k,.isl 1 (bys b),.isl 1 (ints ks),.int i64 c]),LV.irp (LV.isl 1 (ints ks)),.isl 1 (ints ks),.int i64 ((ints ks).length:Int),.bool (decide (20<((ints ks).length:Int))),.bool true],St.mk 0 [])=(LX.ret,liB2 l i k b ks c,St.mk 0 []):=by simp;omega
 exact dlp (fun h=>ai (congrArg LV.bool f1)<|ai (f3)<|ai (f2)<|ai (congrArg some f4)<|ai (congrArg some f4)<|ai (congrArg some f4)<|ai (f3)<|ai (f2)<|ai (congrArg some f4)<|ai (congrArg some f4)<|ai (congrArg some f4)<|ai (congrArg some f4)<|ai (f5)<|f6) (.i (.s (.s (.a) (.b true (.a))) (.s (.k (.s (.r [.a,.a,.e (rOf f2),.a,.a,.a,.a,.a,.g false (.a),.g false (.a),.g false (.e (rOf f2)),.g false (.a),.g false (.a),.g false (.a),.g false (.a),.v (vOf f5) (.a)]) (.a))) .a)) (.a)) (by kernel_rfl)
theorem light_long(n:Nat)(l:List Act4)(hl:60<l.length):Z6 prog C0 (Z3 prog C0 (n+20)) (n+20) 6 [.isl 4 (Zf l)] ⟨0,[]⟩=some (.bool false,⟨0,[]⟩):=by
 have f1:decide (60<((Zf l).length:Int))=true:=by simp;omega
 exact drn (fun h=>ai (congrArg LV.bool f1)<|h) (.s (.a) (.s (.s (.a) (.b true (.a))) .a)) [] .a (by kernel_rfl)
theorem light_thru(n:Nat)(l:List Act4)(hl:l.length<=60)(i:Int)(L:Z2 prog C0 (n+20) 6 0 0 (n+20) (liE l 0) ⟨0,[]⟩=some (.exit 0,liX l i,⟨0,[]⟩)):Z6 prog C0 (Z3 prog C0 (n+20)) (n+20) 6 [.isl 4 (Zf l)] ⟨0,[]⟩=some (.bool true,⟨0,[]⟩):=by
 have f1:decide (60<((Zf l).length:Int))=false:=by simp;omega
 have f2:=L
 exact drn (fun h=>ai (congrArg LV.bool f1)<|ai (Eq.refl (Z9 f2))<|ai (f2)<|h) (.s (.a) (.s (.s (.a) (.b false (.a))) (.s (.s (.a) (.k (.l (.h [] (eOf f2) (Zp f2) (rOf f2))))) (.a)))) [] .a (by kernel_rfl)
theorem light_stop1(n:Nat)(l:List Act4)(hl:l.length<=60)(i k:Int)(b ks:List Int)(c:Int)(L:Z2 prog C0 (n+20) 6 0 0 (n+20) (liE l 0) ⟨0,[]⟩=some (.ret,liB1 l i k b ks c,⟨0,[]⟩)):Z6 prog C0 (Z3 prog C0 (n+20)) (n+20) 6 [.isl 4 (Zf l)] ⟨0,[]⟩=some (.bool false,⟨0,[]⟩):=by
 have f1:decide (60<((Zf l).length:Int))=false:=by simp;omega
 have f2:=L
 exact drn (fun h=>ai (congrArg LV.bool f1)<|ai (Eq.refl (Z9 f2))<|ai (f2)<|h) (.s (.a) (.s (.s (.a) (.b false (.a))) (.s (.s (.a) (.k (.l (.h [] (eOf f2) (Zp f2) (rOf f2))))) .a))) [] .a (by kernel_rfl)
theorem light_stop2(n:Nat)(l:List Act4)(hl:l.length<=60)(i k:Int)(b ks:List Int)(c:Int)(L:Z2 prog C0 (n+20) 6 0 0 (n+20) (liE l 0) ⟨0,[]⟩=some (.ret,liB2 l i k b ks c,⟨0,[]⟩)):Z6 prog C0 (Z3 prog C0 (n+20)) (n+20) 6 [.isl 4 (Zf l)] ⟨0,[]⟩=some (.bool false,⟨0,[]⟩):=by
 have f1:decide (60<((Zf l).length:Int))=false:=by simp;omega
 have f2:=L
 exact drn (fun h=>ai (congrArg LV.bool f1)<|ai (Eq.refl (Z9 f2))<|ai (f2)<|h) (.s (.a) (.s (.s (.a) (.b false (.a))) (.s (.s (.a) (.k (.l (.h [] (eOf f2) (Zp f2) (rOf f2))))) .a))) [] .a (by kernel_rfl)
def Light(x:Act4):Bool:=decide (x.b.length<=100)&&decide (x.keep.length<=20)
def Xi(l:List Act4):Bool:=decide (l.length<=60)&&l.all Light
theorem opsL_at{l:List Act4}{i:Nat}{x:Act4}(h:l[i]? = some x):(Zf l)[i]? = some (.agg [.int .i64 x.kind,.isl 1 (bys x.b),.isl 1 (ints x.keep),.int .i64 x.cut]):=by
 simp [Zf,opL,h]
theorem light_loop(n:Nat)(l:List Act4)(hl:l.length<=60):∀ (q:List Act4) (fu:Nat) (i:Int),0<=i->i<=l.length->l.drop i.toNat=q->q.length<fu ->
  (q.all Light=true->Z2 prog C0 (n+20) 6 0 0 fu (liE l i) ⟨0,[]⟩=some (.exit 0,liX l l.length,⟨0,[]⟩)) /\
  (q.all Light=false->∃ j k b ks c,Z2 prog C0 (n+20) 6 0 0 fu (liE l i) ⟨0,[]⟩=some (.ret,liB1 l j k b ks c,⟨0,[]⟩)∨Z2 prog C0 (n+20) 6 0 0 fu (liE l i) ⟨0,[]⟩=some (.ret,liB2 l j k b ks c,⟨0,[]⟩))
 | [],fu,i,h0,hle,hq,hf=>by
  obtain ⟨fu,rfl⟩:∃ k,fu=k+1:=⟨fu-1,by omega⟩
  have hi:=List.drop_eq_nil_iff.1 hq;have e:i=l.length:=by omega
  refine ⟨fun _=>?_,fun h=>(nomatch h)⟩
  rw [light_end n fu l hl i (by omega),e]
 | x::q,fu,i,h0,hle,hq,hf=>by
  obtain ⟨fu,rfl⟩:∃ k,fu=k+1:=⟨fu-1,by simp at hf;omega⟩
  have hx:l[i.toNat]? = some x:=by
   have:=congrArg (fun z=>z[0]?) hq
   simpa using this
  have hi:i.toNat<l.length:=(List.getElem?_eq_some_iff.1 hx).1;have hq2:l.drop (i+1).toNat=q:=by
   have e:(i+1).toNat=i.toNat+1:=by omega
   rw [e,<- List.drop_drop,hq];rfl
  have ih:=light_loop n l hl q fu (i+1) (by omega) (by omega) hq2 (by simp at hf;omega)
  have ho:=opsL_at hx
  by_cases hb:x.b.length<=100
  ·by_cases hk:x.keep.length<=20
   ·have st:=light_step n fu l hl i h0 (by omega) x.kind x.b x.keep x.cut ho hb hk
    have hL:Light x=true:=by simp [Light,hb,hk]
    rw [List.all_cons,hL,Bool.true_and];refine ⟨fun h=>st _ (ih.1 h),fun h=>?_⟩
    obtain ⟨j,k,b,ks,c,h1 | h1⟩:=ih.2 h
    ·exact ⟨j,k,b,ks,c,.inl (st _ h1)⟩
    ·exact ⟨j,k,b,ks,c,.inr (st _ h1)⟩
   ·have hL:Light x=false:=by simp [Light,hk]
    rw [List.all_cons,hL,Bool.false_and];exact ⟨fun h=>(nomatch h),fun _=>⟨i,x.kind,x.b,x.keep,x.cut,.inr (light_bad2 n fu l hl i h0 (by omega) _ _ _ _ ho hb (by omega))⟩⟩
  ·have hL:Light x=false:=by simp [Light,hb]
   rw [List.all_cons,hL,Bool.false_and];exact ⟨fun h=>(nomatch h),fun _=>⟨i,x.kind,x.b,x.keep,x.cut,.inl (light_bad1 n fu l hl i h0 (by omega) _ _ _ _ ho (by omega))⟩⟩
theorem light_ok(n:Nat)(l:List Act4)(hn:l.length<n+20):Z6 prog C0 (Z3 prog C0 (n+20)) (n+20) 6 [.isl 4 (Zf l)] ⟨0,[]⟩=some (.bool (Xi l),⟨0,[]⟩):=by
 unfold Xi
 by_cases hl:l.length<=60
 ·have L:=light_loop n l hl l (n+20) 0 (by omega) (by omega) rfl hn
  rw [decide_eq_true hl,Bool.true_and]
  cases h:l.all Light with
  | true=>exact light_thru n l hl _ (L.1 h)
  | false =>
   obtain ⟨j,k,b,ks,c,h1 | h1⟩:=L.2 h
   ·exact light_stop1 n l hl j k b ks c h1
   ·exact light_stop2 n l hl j k b ks c h1
 ·rw [decide_eq_false hl,Bool.false_and]
  exact light_long n l (by omega)
theorem light_any(n:Nat)(l:List Act4)(hn:60<n+20):Z6 prog C0 (Z3 prog C0 (n+20)) (n+20) 6 [.isl 4 (Zf l)] ⟨0,[]⟩=some (.bool (Xi l),⟨0,[]⟩):=by
 by_cases h:l.length<=60
 ·exact light_ok n l (by omega)
 ·have e:Xi l=false:=by simp [Xi,h]
  rw [e];exact light_long n l (by omega)
end Go.Mac
namespace Go.Mac
open Go Go.Eng Go.Proofs Go.Mac.Nd
open Go.IntKind (i64)
open Go.Proofs.Tryz (prog)
set_option maxHeartbeats 0
set_option maxRecDepth 100000
theorem kept_1(n:Nat)(ks:List Int)(k:Nat)(hk:k<ks.length)(h:¬ atI ks k=0):
  Z6 prog Ck (Z3 prog Ck (n+10)) (n+10) 56 [.isl 1 (ints ks),.int .i64 k] ⟨0,[]⟩=some (.bool true,⟨0,[]⟩):=by
 have f1:decide ((↑k:Int)<((ints ks).length:Int))=true:=by simp;omega
 have f2:(ints ks)[Int.toNat (↑k:Int)]? = some (LV.int i64 (atI ks k)):=by simp (disch:=omega)
 have f3:0<=(↑k:Int)/\(↑k:Int)<((ints ks).length:Int):=by simp;omega
 have f4:LV.bool (if decide ((↑k:Int)<((ints ks).length:Int))=true then !decide (atI ks k=0) else false)=LV.bool true:=by simp;omega
 exact drn (fun h=>ai (congrArg some f1)<|ai (congrArg some f1)<|ai (congrArg some f1)<|ai (f3)<|ai (f2)<|ai (congrArg some f1)<|ai (congrArg some f1)<|ai (f4)<|h) (.s (.a) (.s (.r [.a,.a,.a,.a,.a,.g true (.a),.g true (.a),.g true (.e (rOf f2)),.g true (.a),.g true (.a),.v (vOf f4) (.a)]) (.a))) [] .a (by kernel_rfl)
theorem kept_0(n:Nat)(ks:List Int)(k:Nat)(hk:k<ks.length)(h:atI ks k=0):
  Z6 prog Ck (Z3 prog Ck (n+10)) (n+10) 56 [.isl 1 (ints ks),.int .i64 k] ⟨0,[]⟩=some (.bool false,⟨0,[]⟩):=by
 have f1:decide ((↑k:Int)<((ints ks).length:Int))=true:=by simp;omega
 have f2:(ints ks)[Int.toNat (↑k:Int)]? = some (LV.int i64 0):=by (simp (disch:=first | omega | (simp;omega));omega)
 have f3:0<=(↑k:Int)/\(↑k:Int)<((ints ks).length:Int):=by simp;omega
 have f4:LV.bool (if decide ((↑k:Int)<((ints ks).length:Int))=true then false else false)=LV.bool false:=by simp
 exact drn (fun h=>ai (congrArg some f1)<|ai (congrArg some f1)<|ai (congrArg some f1)<|ai (f3)<|ai (f2)<|ai (congrArg some f1)<|ai (congrArg some f1)<|ai (f4)<|h) (.s (.a) (.s (.r [.a,.a,.a,.a,.a,.g true (.a),.g true (.a),.g true (.e (rOf f2)),.g true (.a),.g true (.a),.v (vOf f4) (.a)]) (.a))) [] .a (by kernel_rfl)
theorem kept_o(n:Nat)(ks:List Int)(k:Nat)(hk:ks.length<=k):
  Z6 prog Ck (Z3 prog Ck (n+10)) (n+10) 56 [.isl 1 (ints ks),.int .i64 k] ⟨0,[]⟩=some (.bool false,⟨0,[]⟩):=by
 have f1:decide ((↑k:Int)<((ints ks).length:Int))=false:=by simp;omega
 have f2:Xf (decide ((↑k:Int)<((ints ks).length:Int))) LV.any (LV.bool false)=some (LV.bool false):=by simp;omega
 exact drn (fun h=>ai (congrArg some f1)<|ai (congrArg some f1)<|ai (congrArg some f1)<|ai (congrArg some f1)<|ai (congrArg some f1)<|ai (Y3 (st:=(St.mk 0 [])) f2)<|h) (.s (.a) (.s (.r [.a,.a,.a,.a,.a,.g false (.a),.g false (.a),.g false (.a),.g false (.a),.g false (.a),.t (rOf (Y3 (st:=(St.mk 0 [])) f2))]) (.a))) [] .a (by kernel_rfl)
theorem kept_1I(n:Nat)(ks:List Int)(i:Int)(h0:0<=i)(hk:i<(ks.length:Int))(h:¬ atI ks i.toNat=0):Z6 prog Ck (Z3 prog Ck (n+10)) (n+10) 56 [.isl 1 (ints ks),.int .i64 i] ⟨0,[]⟩=some (.bool true,⟨0,[]⟩):=by
 obtain ⟨k,rfl⟩:=Int.eq_ofNat_of_zero_le h0;exact kept_1 n ks k (by omega) (by simpa using h)
theorem kept_0I(n:Nat)(ks:List Int)(i:Int)(h0:0<=i)(hk:i<(ks.length:Int))(h:atI ks i.toNat=0):Z6 prog Ck (Z3 prog Ck (n+10)) (n+10) 56 [.isl 1 (ints ks),.int .i64 i] ⟨0,[]⟩=some (.bool false,⟨0,[]⟩):=by
 obtain ⟨k,rfl⟩:=Int.eq_ofNat_of_zero_le h0;exact kept_0 n ks k (by omega) (by simpa using h)
theorem kept_oI(n:Nat)(ks:List Int)(i:Int)(h0:0<=i)(hk:(ks.length:Int)<=i):Z6 prog Ck (Z3 prog Ck (n+10)) (n+10) 56 [.isl 1 (ints ks),.int .i64 i] ⟨0,[]⟩=some (.bool false,⟨0,[]⟩):=by
 obtain ⟨k,rfl⟩:=Int.eq_ofNat_of_zero_le h0;exact kept_o n ks k (by omega)
end Go.Mac
namespace Go.Mac
open Go Go.Eng Go.Proofs Go.Mac.Nd
open Go.IntKind (i64)
open Go.Proofs.Tryz (prog)
set_option maxHeartbeats 0
set_option maxRecDepth 100000
abbrev xkS(rm:Int)(m:ML)(p:PL):St:=⟨2,[(0,LObj.box 36 [.int i64 rm,.isl 2 (Z1 m),.isl 3 (Z5 p)]),(1,LObj.box 36 [.int i64 0,.nils,.nils])]⟩
abbrev xkE(ks:List Int)(cut last i:Int):LEnv:=[.any,.isl 1 (ints ks),.int i64 cut,.ptr 0 0,.any,.any,.ptr 1 0,.int i64 last,.int i64 i,.any,.any,.any,.any,.any,.any,.any,.any,.any,.any,.any,.any,.any,.any,.any,.any,.any,.any,.any,.any,.any,.any,.any,.any,.any,.any,.any,.any,.any,.any,.any,.any,.any,.any,.any,.any,.any,.any,.any,.any,.any,.any,.any,.any,.any,.any,.any,.any,.any,.any,.any,.any,.any,.any,.any,.any,.any,.any,.any,.any,.any,.any,.any,.any,.any,.any,.any,.any,.any,.any,.any,.any,.any,.any,.any,.any,.any,.any,.any,.any,.any,.any,.any,.any,.any,.any,.any,.any]
abbrev xkX(p:PL)(ks:List Int)(cut last i:Int):LEnv:=[.any,.isl 1 (ints ks),.int i64 cut,.ptr 0 0,.any,.any,.ptr 1 0,.int i64 last,.int i64 i,.any,.any,.any,.any,.any,.any,.any,.int i64 i,.ptr 0 2,.isl 3 (Z5 p),.int i64 ((Z5 p).length:Int),.bool (decide (i<((Z5 p).length:Int))),.any,.any,.any,.any,.any,.any,.any,.any,.any,.any,.any,.any,.any,.any,.any,.any,.any,.any,.any,.any,.any,.any,.any,.any,.any,.any,.any,.any,.any,.any,.any,.any,.any,.any,.any,.any,.any,.any,.any,.any,.any,.any,.any,.any,.any,.any,.any,.any,.any,.any,.any,.any,.any,.any,.any,.any,.any,.any,.any,.any,.any,.any,.any,.any,.any,.any,.any,.any,.any,.any,.any,.any,.any,.any,.any,.any]
theorem xk_hit(n fu:Nat)(rm:Int)(m:ML)(p:PL)(hp:p.length<=1000)(hm:m.length<=100000)(ks:List Int)(cut last:Int)(k:Nat)(hi:k<p.length)(hk:k<ks.length)(h:¬ atI ks k=0)(r:LX × LEnv × St)(hr:Z2 prog Ck (n+60) 17 0 0 fu (xkE ks cut k ((k:Int)+1)) (xkS rm m p)=some r):Z2 prog Ck (n+60) 17 0 0 (fu+1) (xkE ks cut last k) (xkS rm m p)=some r:=by
 have f1:decide ((↑k:Int)<((Z5 p).length:Int))=true:=by simp;omega
 have f2:=kept_1 (n+49) ks k hk h;have f3:LV.int i64 (IntKind.wrap i64 ((↑k:Int)+1))=LV.int i64 ((↑k:Int)+1):=by simp (disch:=omega)
 have f4:=hr;exact dlp (fun h=>ai (congrArg LV.bool f1)<|ai (f2)<|ai (f3)<|ai (Eq.refl (Z9 f4))<|ai (f4)<|h) (.i (.s (.s (.a) (.b true (.a))) (.s (.k (.s (.r [.a,.a,.f (rOf f2)]) (.a))) (.r [.a,.v (vOf f3) (.a)]))) (.h [] (eOf f4) (Zp f4) (rOf f4))) (by kernel_rfl)
theorem xk_miss(n fu:Nat)(rm:Int)(m:ML)(p:PL)(hp:p.length<=1000)(hm:m.length<=100000)(ks:List Int)(cut last:Int)(k:Nat)(hi:k<p.length)(hk:k<ks.length)(h:atI ks k=0)(r:LX × LEnv × St)(hr:Z2 prog Ck (n+60) 17 0 0 fu (xkE ks cut last ((k:Int)+1)) (xkS rm m p)=some r):Z2 prog Ck (n+60) 17 0 0 (fu+1) (xkE ks cut last k) (xkS rm m p)=some r:=by
 have f1:decide ((↑k:Int)<((Z5 p).length:Int))=true:=by simp;omega
 have f2:=kept_0 (n+49) ks k hk h;have f3:LV.int i64 (IntKind.wrap i64 ((↑k:Int)+1))=LV.int i64 ((↑k:Int)+1):=by simp (disch:=omega)
 have f4:=hr;exact dlp (fun h=>ai (congrArg LV.bool f1)<|ai (f2)<|ai (f3)<|ai (Eq.refl (Z9 f4))<|ai (f4)<|h) (.i (.s (.s (.a) (.b true (.a))) (.s (.k (.s (.r [.a,.a,.f (rOf f2)]) (.a))) (.r [.a,.v (vOf f3) (.a)]))) (.h [] (eOf f4) (Zp f4) (rOf f4))) (by kernel_rfl)
theorem xk_over(n fu:Nat)(rm:Int)(m:ML)(p:PL)(hp:p.length<=1000)(hm:m.length<=100000)(ks:List Int)(cut last:Int)(k:Nat)(hi:k<p.length)(hk:ks.length<=k)(r:LX × LEnv × St)(hr:Z2 prog Ck (n+60) 17 0 0 fu (xkE ks cut last ((k:Int)+1)) (xkS rm m p)=some r):Z2 prog Ck (n+60) 17 0 0 (fu+1) (xkE ks cut last k) (xkS rm m p)=some r:=by
 have f1:decide ((↑k:Int)<((Z5 p).length:Int))=true:=by simp;omega
 have f2:=kept_o (n+49) ks k hk;have f3:LV.int i64 (IntKind.wrap i64 ((↑k:Int)+1))=LV.int i64 ((↑k:Int)+1):=by simp (disch:=omega)
 have f4:=hr;exact dlp (fun h=>ai (congrArg LV.bool f1)<|ai (f2)<|ai (f3)<|ai (Eq.refl (Z9 f4))<|ai (f4)<|h) (.i (.s (.s (.a) (.b true (.a))) (.s (.k (.s (.r [.a,.a,.f (rOf f2)]) (.a))) (.r [.a,.v (vOf f3) (.a)]))) (.h [] (eOf f4) (Zp f4) (rOf f4))) (by kernel_rfl)
theorem xk_end(n fu:Nat)(rm:Int)(m:ML)(p:PL)(hp:p.length<=1000)(hm:m.length<=100000)(ks:List Int)(cut last i:Int)(hi:(p.length:Int)<=i):
  Z2 prog Ck (n+60) 17 0 0 (fu+1) (xkE ks cut last i) (xkS rm m p)=some (.exit 0,xkX p ks cut last i,xkS rm m p):=by
 have f1:decide (i<((Z5 p).length:Int))=false:=by simp;omega
 exact dlp (fun h=>ai (congrArg LV.bool f1)<|h) (.i (.s (.s (.a) (.b false (.a))) .a) (.a)) (by kernel_rfl)
end Go.Mac
namespace Go.Mac
open Go Go.Eng Go.Proofs
open Go.IntKind (i64)
open Go.Proofs.Tryz (prog)
set_option maxHeartbeats 0
set_option maxRecDepth 100000
theorem padc_step(n fu:Nat)(b:List Int)(hb:b.length<=64)(k:Nat)(hk:k<b.length)(r:LX × LEnv × St)(hr:Z2 prog Ck (n+20) 58 0 0 fu (pdE b ((k:Int)+1)) (pdS b (k+1))=some r):
  Z2 prog Ck (n+20) 58 0 0 (fu+1) (pdE b k) (pdS b k)=some r:=by
 have e:=padP_set b k hk (by omega)
 have e2:=padP_length b k (by omega) (by omega)
 have f1:decide ((↑k:Int)<((bys b).length:Int))=true:=by simp;omega
 have f2:LV.bool (if decide ((↑k:Int)<((bys b).length:Int))=true then decide ((↑k:Int)<64) else false)=LV.bool true:=by simp;omega
 have f3:(bys b)[Int.toNat (↑k:Int)]? = some (LV.int IntKind.u8 (atI b k)):=by simp (disch:=omega)
 have f4:0<=(↑k:Int)/\(↑k:Int)<((bys b).length:Int):=by simp;omega
 have f5:0<=(↑k:Int)/\(↑k:Int)<64:=by omega
 have f6:LV.pel 1 0 (0+Int.toNat (↑k:Int)) 0=LV.pel 1 0 k 0:=by simp
 have f7:(bys (padP b k))[k]? = some (LV.int IntKind.u8 (atI (padP b k) k)):=by simp (disch:=omega)
 have f8:LObj.row 5 1 (List.set (bys (padP b k)) k (LV.int IntKind.u8 (atI b k)))=LObj.row 5 1 (bys (padP b (k+1))):=by simp (disch:=omega) [-List.reduceReplicate,hb,hk,hr,e,e2]
 have f9:LV.int i64 (IntKind.wrap i64 ((↑k:Int)+1))=LV.int i64 ((↑k:Int)+1):=by simp (disch:=omega)
 have f10:=hr;exact dlp (fun h=>ai (congrArg some f1)<|ai (congrArg some f1)<|ai (f2)<|ai (f4)<|ai (f3)<|ai (f5)<|ai (f6)<|ai (f7)<|ai (congrArg some f8)<|ai (f9)<|ai (Eq.refl (Z9 f10))<|ai (f10)<|h) (.i (.s (.s (.r [.a,.a,.a,.a,.a,.g true (.a),.g true (.a),.v (vOf f2) (.a)]) (.a)) (.s (.k (.r [.a,.a,.a,.a,.e (rOf f3),.a,.v (vOf f6) (.q),.x 0 (vOf f8) (.e (rOf f7))])) (.r [.a,.v (vOf f9) (.a)]))) (.h [] (eOf f10) (Zp f10) (rOf f10))) (by kernel_rfl)
theorem padc_end(n fu:Nat)(b:List Int)(hb:b.length<=64):
  Z2 prog Ck (n+20) 58 0 0 (fu+1) (pdE b b.length) (pdS b b.length)=some (.exit 0,pdX b b.length,pdS b b.length):=by
 have f1:decide ((b.length:Int)<((bys b).length:Int))=false:=by simp
 have f2:Xf (decide ((b.length:Int)<((bys b).length:Int))) LV.any (LV.bool false)=some (LV.bool false):=by simp
 exact dlp (fun h=>ai (congrArg some f1)<|ai (congrArg some f1)<|ai (Y3 (st:=(St.mk 1 [(0,LObj.row 5 1 (bys (padP b (List.length b))))])) f2)<|h) (.i (.s (.s (.r [.a,.a,.a,.a,.a,.g false (.a),.g false (.a),.t (rOf (Y3 (st:=(St.mk 1 [(0,LObj.row 5 1 (bys (padP b (List.length b))))])) f2))]) (.a)) .a) (.a)) (by kernel_rfl)
theorem padc_loop(n:Nat)(b:List Int)(hb:b.length<=64):∀ (j k fu:Nat),k+j=b.length->j<fu->Z2 prog Ck (n+20) 58 0 0 fu (pdE b k) (pdS b k)=some (.exit 0,pdX b b.length,pdS b b.length)
 | 0,k,fu,hk,hf=>by
  obtain ⟨fu,rfl⟩:∃ q,fu=q+1:=⟨fu-1,by omega⟩
  obtain rfl:k=b.length:=by omega
  exact padc_end n fu b hb
 | j+1,k,fu,hk,hf=>by
  obtain ⟨fu,rfl⟩:∃ q,fu=q+1:=⟨fu-1,by omega⟩
  exact padc_step n fu b hb k (by omega) _ (padc_loop n b hb j (k+1) fu (by omega) (by omega))
theorem padc_ok(n:Nat)(b:List Int)(hb:b.length<=64)(hn:64<n+20):Z6 prog Ck (Z3 prog Ck (n+20)) (n+20) 58 [.isl 1 (bys b)] ⟨0,[]⟩=some (.sl 1 0 0 64 none,⟨1,[(0,.row 5 1 (bys (blk b)))]⟩):=by
 have L:=padc_loop n b hb b.length 0 (n+20) (by omega) (by omega)
 have e:=padP_full b hb;have e2:=padP_zero b;unfold pdS at L;rw [e,e2] at L;have f1:LObj.row 5 1 (List.replicate 64 (LV.int IntKind.u8 0))=LObj.row 5 1 (bys (List.replicate 64 0)):=by simp
 have f2:=L
 exact drn (fun h=>ai (congrArg some f1)<|ai (Eq.refl (Z9 f2))<|ai (f2)<|h) (.s (.a) (.s (.a) (.s (.s (.a) (.k (.l (.h [.x 0 (vOf f1)] (eOf f2) (Zp f2) (rOf f2))))) (.a)))) [] .a (by kernel_rfl)
end Go.Mac
