/-
 SlotDoes holds for every input: each call is answered, and both blocks are, as the reference says; the condition is the card's own.
-/
import Derived.Test.YtddbfjgodbfaoaaGreatDoorSd3
import Derived.Test.YtddbfjgodbfaoaaGreatDoorSd5
import Derived.Test.YtddbfjgodbfaoaaGreatDoorSd6
import Derived.Test.YtddbfjgodbfaoaaGreatDoorSd7
import Derived.Test.YtddbfjgodbfaoaaGreatDoorSd8
import Derived.Test.YtddbfjgodbfaoaaGreatDoorProg
import Derived.KernelRfl
import Derived.Test.YtddbfjgodbfaoaaGreatDoorRows
import Derived.ChangeSame
import Derived.ChangeVars
import Derived.RowKitTokens
import Derived.LaidLaws
import Derived.LaidHandle
import Derived.Stop.Joined
set_option linter.unusedVariables false
set_option linter.unusedSimpArgs false
namespace Go.Mac
open Go Go.Eng Go.Proofs Go.Mac.Nd
open Go.IntKind (i64)
open Go.Proofs.Tryz (prog)
set_option maxHeartbeats 0
set_option maxRecDepth 100000
abbrev xcE(ks:List Int)(cut last i:Int):LEnv:=[.any,.isl 1 (ints ks),.int i64 cut,.ptr 0 0,.any,.any,.ptr 1 0,.int i64 last,.any,.ptr 2 0,.int i64 i,.any,.any,.any,.any,.any,.any,.any,.any,.any,.any,.any,.any,.any,.any,.any,.any,.any,.any,.any,.any,.any,.any,.any,.any,.any,.any,.any,.any,.any,.any,.any,.any,.any,.any,.any,.any,.any,.any,.any,.any,.any,.any,.any,.any,.any,.any,.any,.any,.any,.any,.any,.any,.any,.any,.any,.any,.any,.any,.any,.any,.any,.any,.any,.any,.any,.any,.any,.any,.any,.any,.any,.any,.any,.any,.any,.any,.any,.any,.any,.any,.any,.any,.any,.any,.any,.any]
abbrev xcX(p:PL)(ks:List Int)(cut last i:Int):LEnv:=[.any,.isl 1 (ints ks),.int i64 cut,.ptr 0 0,.any,.any,.ptr 1 0,.int i64 last,.any,.ptr 2 0,.int i64 i,.any,.any,.any,.any,.any,.any,.any,.any,.any,.any,.any,.any,.any,.any,.any,.any,.any,.any,.any,.any,.any,.int i64 i,.ptr 0 2,.isl 3 (Z5 p),.int i64 ((Z5 p).length:Int),.bool (decide (i<((Z5 p).length:Int))),.any,.any,.any,.any,.any,.any,.any,.any,.any,.any,.any,.any,.any,.any,.any,.any,.any,.any,.any,.any,.any,.any,.any,.any,.any,.any,.any,.any,.any,.any,.any,.any,.any,.any,.any,.any,.any,.any,.any,.any,.any,.any,.any,.any,.any,.any,.any,.any,.any,.any,.any,.any,.any,.any,.any,.any,.any,.any,.any,.any]
theorem xc_over(n fu:Nat)(rm:Int)(m:ML)(p:PL)(hp:p.length<=1000)(hm:m.length<=100000)(c c':ML)(ks:List Int)(cut:Int)(last:Int)(i:Int)(h0:0<=i)(hi:i<(p.length:Int))(hk:(ks.length:Int)<=i)(hn:300<n)(r:LX × LEnv × St)(hr:Z2 prog Ck (n+60) 17 1 0 fu (xcE ks cut last (i+1)) (syS rm m p c)=some r):Z2 prog Ck (n+60) 17 1 0 (fu+1) (xcE ks cut last i) (syS rm m p c)=some r:=by
 have f1:decide (i<((Z5 p).length:Int))=true:=by simp;omega
 have f2:=kept_oI (n+49) ks i h0 hk;have f3:LV.int i64 (IntKind.wrap i64 (i+1))=LV.int i64 (i+1):=by simp (disch:=omega)
 have f4:=hr;exact dlp (fun h=>ai (congrArg LV.bool f1)<|ai (f2)<|ai (f3)<|ai (Eq.refl (Z9 f4))<|ai (f4)<|h) (.i (.s (.s (.a) (.b true (.a))) (.s (.k (.s (.s (.r [.a,.a,.f (rOf f2)]) (.a)) .a)) (.r [.a,.v (vOf f3) (.a)]))) (.h [] (eOf f4) (Zp f4) (rOf f4))) (by kernel_rfl)
theorem xc_lost(n fu:Nat)(rm:Int)(m:ML)(p:PL)(hp:p.length<=1000)(hm:m.length<=100000)(c c':ML)(ks:List Int)(cut:Int)(last:Int)(i:Int)(h0:0<=i)(hi:i<(p.length:Int))(hk:i<(ks.length:Int))(h:atI ks i.toNat=0)(hn:300<n)(r:LX × LEnv × St)(hr:Z2 prog Ck (n+60) 17 1 0 fu (xcE ks cut last (i+1)) (syS rm m p c)=some r):Z2 prog Ck (n+60) 17 1 0 (fu+1) (xcE ks cut last i) (syS rm m p c)=some r:=by
 have f1:decide (i<((Z5 p).length:Int))=true:=by simp;omega
 have f2:=kept_0I (n+49) ks i h0 hk h;have f3:LV.int i64 (IntKind.wrap i64 (i+1))=LV.int i64 (i+1):=by simp (disch:=omega)
 have f4:=hr;exact dlp (fun h=>ai (congrArg LV.bool f1)<|ai (f2)<|ai (f3)<|ai (Eq.refl (Z9 f4))<|ai (f4)<|h) (.i (.s (.s (.a) (.b true (.a))) (.s (.k (.s (.s (.r [.a,.a,.f (rOf f2)]) (.a)) .a)) (.r [.a,.v (vOf f3) (.a)]))) (.h [] (eOf f4) (Zp f4) (rOf f4))) (by kernel_rfl)
theorem xc_free1(n fu:Nat)(rm:Int)(m:ML)(p:PL)(hp:p.length<=1000)(hm:m.length<=100000)(c c':ML)(ks:List Int)(cut:Int)(last:Int)(i:Int)(h0:0<=i)(hi:i<(p.length:Int))(hk:i<(ks.length:Int))(h:¬ atI ks i.toNat=0)(hl:i<last)(a:Int)(hx:(Z5 p)[i.toNat]? = some (.agg [.int .i64 a,.bool true,.nils]))(U:∀ j,200<j->Z6 prog Ck (Z3 prog Ck (j+40)) (j+40) 59 [.isl 2 (Z1 c),.agg [.int .i64 a,.bool true,.nils]] ⟨0,[]⟩=some (.isl 2 (Z1 c'),⟨0,[]⟩))(hn:300<n)(r:LX × LEnv × St)(hr:Z2 prog Ck (n+60) 17 1 0 fu (xcE ks cut last (i+1)) (syS rm m p c')=some r):Z2 prog Ck (n+60) 17 1 0 (fu+1) (xcE ks cut last i) (syS rm m p c)=some r:=by
 have f1:decide (i<((Z5 p).length:Int))=true:=by simp;omega
 have f2:=kept_1I (n+49) ks i h0 hk h;have f3:(Z5 p)[i.toNat]? = some (LV.agg [.int i64 a,.bool true,.nils]):=hx;have f4:0<=i/\i<((Z5 p).length:Int):=by simp;omega
 have f5:decide (i=last)=false:=by simp;omega
 have f6:Xf (decide (i=last)) LV.any (LV.bool false)=some (LV.bool false):=by simp;omega
 have f7:=U (n+19) (by omega)
 have f8:LV.int i64 (IntKind.wrap i64 (i+1))=LV.int i64 (i+1):=by simp (disch:=omega)
 have f9:=hr;exact dlp (fun h=>ai (congrArg LV.bool f1)<|ai (f2)<|ai (f4)<|ai (f3)<|ai (congrArg some f5)<|ai (congrArg some f5)<|ai (congrArg some f5)<|ai (Y3 (st:=(St.mk 4 [(3,LObj.box 121 [.int i64 a,.bool true,.nils]),(0,LObj.box 36 [.int i64 rm,.isl 2 (Z1 m),.isl 3 (Z5 p)]),(1,LObj.box 36 [.int i64 0,.nils,.nils]),(2,LObj.box 36 [.int i64 rm,.isl 2 (Z1 c),.nils])])) f6)<|ai (f7)<|ai (f8)<|ai (Eq.refl (Z9 f9))<|ai (f9)<|h) (.i (.s (.s (.a) (.b true (.a))) (.s (.k (.s (.s (.r [.a,.a,.f (rOf f2)]) (.a)) (.s (.r [.a,.a,.a,.e (rOf f3)]) (.s (.s (.r [.a,.a,.a,.a,.g false (.a),.g false (.a),.g false (.a),.t (rOf (Y3 (st:=(St.mk 4 [(3,LObj.box 121 [.int i64 a,.bool true,.nils]),(0,LObj.box 36 [.int i64 rm,.isl 2 (Z1 m),.isl 3 (Z5 p)]),(1,LObj.box 36 [.int i64 0,.nils,.nils]),(2,LObj.box 36 [.int i64 rm,.isl 2 (Z1 c),.nils])])) f6))]) (.a)) (.r [.a,.a,.a,.f (rOf f7)]))))) (.r [.a,.v (vOf f8) (.a)]))) (.h [] (eOf f9) (Zp f9) (rOf f9))) (by kernel_rfl)
theorem xc_free2(n fu:Nat)(rm:Int)(m:ML)(p:PL)(hp:p.length<=1000)(hm:m.length<=100000)(c c':ML)(ks:List Int)(cut:Int)(i:Int)(h0:0<=i)(hi:i<(p.length:Int))(hk:i<(ks.length:Int))(h:¬ atI ks i.toNat=0)(a:Int)(hx:(Z5 p)[i.toNat]? = some (.agg [.int .i64 a,.bool true,.nils]))(U:∀ j,200<j->Z6 prog Ck (Z3 prog Ck (j+40)) (j+40) 59 [.isl 2 (Z1 c),.agg [.int .i64 a,.bool true,.nils]] ⟨0,[]⟩=some (.isl 2 (Z1 c'),⟨0,[]⟩))(hn:300<n)(r:LX × LEnv × St)(hr:Z2 prog Ck (n+60) 17 1 0 fu (xcE ks cut i (i+1)) (syS rm m p c')=some r):Z2 prog Ck (n+60) 17 1 0 (fu+1) (xcE ks cut i i) (syS rm m p c)=some r:=by
 have f1:decide (i<((Z5 p).length:Int))=true:=by simp;omega
 have f2:=kept_1I (n+49) ks i h0 hk h;have f3:(Z5 p)[i.toNat]? = some (LV.agg [.int i64 a,.bool true,.nils]):=hx;have f4:0<=i/\i<((Z5 p).length:Int):=by simp;omega
 have f5:decide (i=i)=true:=by simp
 have f6:LV.bool (if decide (i=i)=true then false else false)=LV.bool false:=by simp
 have f7:=U (n+19) (by omega)
 have f8:LV.int i64 (IntKind.wrap i64 (i+1))=LV.int i64 (i+1):=by simp (disch:=omega)
 have f9:=hr;exact dlp (fun h=>ai (congrArg LV.bool f1)<|ai (f2)<|ai (f4)<|ai (f3)<|ai (congrArg some f5)<|ai (congrArg some f5)<|ai (congrArg some f5)<|ai (f6)<|ai (f7)<|ai (f8)<|ai (Eq.refl (Z9 f9))<|ai (f9)<|h) (.i (.s (.s (.a) (.b true (.a))) (.s (.k (.s (.s (.r [.a,.a,.f (rOf f2)]) (.a)) (.s (.r [.a,.a,.a,.e (rOf f3)]) (.s (.s (.r [.a,.a,.a,.a,.g true (.a),.g true (.a),.g true (.a),.v (vOf f6) (.a)]) (.a)) (.r [.a,.a,.a,.f (rOf f7)]))))) (.r [.a,.v (vOf f8) (.a)]))) (.h [] (eOf f9) (Zp f9) (rOf f9))) (by kernel_rfl)
theorem xc_put1(n fu:Nat)(rm:Int)(m:ML)(p:PL)(hp:p.length<=1000)(hm:m.length<=100000)(c c':ML)(ks:List Int)(cut:Int)(last:Int)(i:Int)(h0:0<=i)(hi:i<(p.length:Int))(hk:i<(ks.length:Int))(h:¬ atI ks i.toNat=0)(hl:i<last)(a:Int)(b:List Int)(hx:(Z5 p)[i.toNat]? = some (.agg [.int .i64 a,.bool false,.isl 1 (bys b)]))(U:∀ j,200<j->Z6 prog Ck (Z3 prog Ck (j+40)) (j+40) 59 [.isl 2 (Z1 c),.agg [.int .i64 a,.bool false,.isl 1 (bys b)]] ⟨0,[]⟩=some (.isl 2 (Z1 c'),⟨0,[]⟩))(hn:300<n)(r:LX × LEnv × St)(hr:Z2 prog Ck (n+60) 17 1 0 fu (xcE ks cut last (i+1)) (syS rm m p c')=some r):Z2 prog Ck (n+60) 17 1 0 (fu+1) (xcE ks cut last i) (syS rm m p c)=some r:=by
 have f1:decide (i<((Z5 p).length:Int))=true:=by simp;omega
 have f2:=kept_1I (n+49) ks i h0 hk h;have f3:(Z5 p)[i.toNat]? = some (LV.agg [.int i64 a,.bool false,.isl 1 (bys b)]):=hx;have f4:0<=i/\i<((Z5 p).length:Int):=by simp;omega
 have f5:decide (i=last)=false:=by simp;omega
 have f6:Xf (decide (i=last)) LV.any (LV.bool false)=some (LV.bool false):=by simp;omega
 have f7:=U (n+19) (by omega)
 have f8:LV.int i64 (IntKind.wrap i64 (i+1))=LV.int i64 (i+1):=by simp (disch:=omega)
 have f9:=hr;exact dlp (fun h=>ai (congrArg LV.bool f1)<|ai (f2)<|ai (f4)<|ai (f3)<|ai (congrArg some f5)<|ai (congrArg some f5)<|ai (congrArg some f5)<|ai (Y3 (st:=(St.mk 4 [(3,LObj.box 121 [.int i64 a,.bool false,.isl 1 (bys b)]),(0,LObj.box 36 [.int i64 rm,.isl 2 (Z1 m),.isl 3 (Z5 p)]),(1,LObj.box 36 [.int i64 0,.nils,.nils]),(2,LObj.box 36 [.int i64 rm,.isl 2 (Z1 c),.nils])])) f6)<|ai (f7)<|ai (f8)<|ai (Eq.refl (Z9 f9))<|ai (f9)<|h) (.i (.s (.s (.a) (.b true (.a))) (.s (.k (.s (.s (.r [.a,.a,.f (rOf f2)]) (.a)) (.s (.r [.a,.a,.a,.e (rOf f3)]) (.s (.s (.r [.a,.a,.a,.a,.g false (.a),.g false (.a),.g false (.a),.t (rOf (Y3 (st:=(St.mk 4 [(3,LObj.box 121 [.int i64 a,.bool false,.isl 1 (bys b)]),(0,LObj.box 36 [.int i64 rm,.isl 2 (Z1 m),.isl 3 (Z5 p)]),(1,LObj.box 36 [.int i64 0,.nils,.nils]),(2,LObj.box 36 [.int i64 rm,.isl 2 (Z1 c),.nils])])) f6))]) (.a)) (.r [.a,.a,.a,.f (rOf f7)]))))) (.r [.a,.v (vOf f8) (.a)]))) (.h [] (eOf f9) (Zp f9) (rOf f9))) (by kernel_rfl)
theorem zq9_0(a0:Int):LV.bool (if decide (a0=a0)=true then true else false)=LV.bool true:=by simp
theorem xc_put2(n fu:Nat)(rm:Int)(m:ML)(p:PL)(hp:p.length<=1000)(hm:m.length<=100000)(c c':ML)(ks:List Int)(cut:Int)(i:Int)(h0:0<=i)(hi:i<(p.length:Int))(hk:i<(ks.length:Int))(h:¬ atI ks i.toNat=0)(hc:cut<0)(a:Int)(b:List Int)(hx:(Z5 p)[i.toNat]? = some (.agg [.int .i64 a,.bool false,.isl 1 (bys b)]))(U:∀ j,200<j->Z6 prog Ck (Z3 prog Ck (j+40)) (j+40) 59 [.isl 2 (Z1 c),.agg [.int .i64 a,.bool false,.isl 1 (bys b)]] ⟨0,[]⟩=some (.isl 2 (Z1 c'),⟨0,[]⟩))(hn:300<n)(r:LX × LEnv × St)(hr:Z2 prog Ck (n+60) 17 1 0 fu (xcE ks cut i (i+1)) (syS rm m p c')=some r):Z2 prog Ck (n+60) 17 1 0 (fu+1) (xcE ks cut i i) (syS rm m p c)=some r:=by
 have f1:decide (i<((Z5 p).length:Int))=true:=by simp;omega
 have f2:=kept_1I (n+49) ks i h0 hk h;have f3:(Z5 p)[i.toNat]? = some (LV.agg [.int i64 a,.bool false,.isl 1 (bys b)]):=hx;have f4:0<=i/\i<((Z5 p).length:Int):=by simp;omega
 have f5:decide (i=i)=true:=by simp
 have f6:=zq9_0 i;have f7:LV.bool (if true=true then decide (0<=cut) else false)=LV.bool false:=by simp;omega
 have f8:=U (n+19) (by omega)
 have f9:LV.int i64 (IntKind.wrap i64 (i+1))=LV.int i64 (i+1):=by simp (disch:=omega)
 have f10:=hr;exact dlp (fun h=>ai (congrArg LV.bool f1)<|ai (f2)<|ai (f4)<|ai (f3)<|ai (congrArg some f5)<|ai (congrArg some f5)<|ai (congrArg some f5)<|ai (f6)<|ai (f7)<|ai (f8)<|ai (f9)<|ai (Eq.refl (Z9 f10))<|ai (f10)<|h) (.i (.s (.s (.a) (.b true (.a))) (.s (.k (.s (.s (.r [.a,.a,.f (rOf f2)]) (.a)) (.s (.r [.a,.a,.a,.e (rOf f3)]) (.s (.s (.r [.a,.a,.a,.a,.g true (.a),.g true (.a),.g true (.a),.v (vOf f6) (.a),.a,.a,.a,.v (vOf f7) (.a)]) (.a)) (.r [.a,.a,.a,.f (rOf f8)]))))) (.r [.a,.v (vOf f9) (.a)]))) (.h [] (eOf f10) (Zp f10) (rOf f10))) (by kernel_rfl)
theorem xc_put3(n fu:Nat)(rm:Int)(m:ML)(p:PL)(hp:p.length<=1000)(hm:m.length<=100000)(c c':ML)(ks:List Int)(cut:Int)(i:Int)(h0:0<=i)(hi:i<(p.length:Int))(hk:i<(ks.length:Int))(h:¬ atI ks i.toNat=0)(hc:64<=cut)(a:Int)(b:List Int)(hx:(Z5 p)[i.toNat]? = some (.agg [.int .i64 a,.bool false,.isl 1 (bys b)]))(U:∀ j,200<j->Z6 prog Ck (Z3 prog Ck (j+40)) (j+40) 59 [.isl 2 (Z1 c),.agg [.int .i64 a,.bool false,.isl 1 (bys b)]] ⟨0,[]⟩=some (.isl 2 (Z1 c'),⟨0,[]⟩))(hn:300<n)(r:LX × LEnv × St)(hr:Z2 prog Ck (n+60) 17 1 0 fu (xcE ks cut i (i+1)) (syS rm m p c')=some r):Z2 prog Ck (n+60) 17 1 0 (fu+1) (xcE ks cut i i) (syS rm m p c)=some r:=by
 have f1:decide (i<((Z5 p).length:Int))=true:=by simp;omega
 have f2:=kept_1I (n+49) ks i h0 hk h;have f3:(Z5 p)[i.toNat]? = some (LV.agg [.int i64 a,.bool false,.isl 1 (bys b)]):=hx;have f4:0<=i/\i<((Z5 p).length:Int):=by simp;omega
 have f5:decide (i=i)=true:=by simp
 have f6:=zq9_0 i;have f7:LV.bool (if true=true then decide (0<=cut) else false)=LV.bool true:=by simp;omega
 have f8:LV.bool (if true=true then decide (cut<64) else false)=LV.bool false:=by simp;omega
 have f9:=U (n+19) (by omega)
 have f10:LV.int i64 (IntKind.wrap i64 (i+1))=LV.int i64 (i+1):=by simp (disch:=omega)
 have f11:=hr;exact dlp (fun h=>ai (congrArg LV.bool f1)<|ai (f2)<|ai (f4)<|ai (f3)<|ai (congrArg some f5)<|ai (congrArg some f5)<|ai (congrArg some f5)<|ai (f6)<|ai (f7)<|ai (f8)<|ai (f9)<|ai (f10)<|ai (Eq.refl (Z9 f11))<|ai (f11)<|h) (.i (.s (.s (.a) (.b true (.a))) (.s (.k (.s (.s (.r [.a,.a,.f (rOf f2)]) (.a)) (.s (.r [.a,.a,.a,.e (rOf f3)]) (.s (.s (.r [.a,.a,.a,.a,.g true (.a),.g true (.a),.g true (.a),.v (vOf f6) (.a),.a,.a,.a,.v (vOf f7) (.a),.a,.a,.a,.v (vOf f8) (.a)]) (.a)) (.r [.a,.a,.a,.f (rOf f9)]))))) (.r [.a,.v (vOf f10) (.a)]))) (.h [] (eOf f11) (Zp f11) (rOf f11))) (by kernel_rfl)
theorem xc_end(n fu:Nat)(rm:Int)(m:ML)(p:PL)(hp:p.length<=1000)(hm:m.length<=100000)(c:ML)(ks:List Int)(cut last i:Int)(hi:(p.length:Int)<=i):
  Z2 prog Ck (n+60) 17 1 0 (fu+1) (xcE ks cut last i) (syS rm m p c)=some (.exit 2,xcX p ks cut last i,syS rm m p c):=by
 have f1:decide (i<((Z5 p).length:Int))=false:=by simp;omega
 exact dlp (fun h=>ai (congrArg LV.bool f1)<|h) (.i (.s (.s (.a) (.b false (.a))) .a) (.a)) (by kernel_rfl)
end Go.Mac
namespace Go.Mac
open Go Go.Eng Go.Proofs Go.Mac.Nd
open Go.IntKind (i64)
open Go.Proofs.Tryz (prog)
set_option maxHeartbeats 0
set_option maxRecDepth 100000
def tnL(b o:List Int)(k:Nat):List Int:=b.take k++o.drop k
theorem tnL_len(b o:List Int)(k:Nat)(hb:b.length=64)(ho:o.length=64)(hk:k<=64):(tnL b o k).length=64:=by
 unfold tnL;rw [List.length_append,List.length_take,List.length_drop];omega
theorem tnL_set(b o:List Int)(k:Nat)(hb:b.length=64)(ho:o.length=64)(hk:k<64):(tnL b o k).set k (atI b k)=tnL b o (k+1):=by
 unfold tnL;have e:o.drop k=o[k]'(by omega)::o.drop (k+1):=List.drop_eq_getElem_cons (by omega)
 have e2:b.take (k+1)=b.take k++[b[k]'(by omega)]:=List.take_succ_eq_append_getElem (by omega)
 have e3:atI b k=b[k]'(by omega):=by unfold atI;simp [List.getElem?_eq_getElem (show k<b.length by omega)]
 rw [e,e2,e3,List.set_append_right _ _ (by simp;omega)]
 have:k-(b.take k).length=0:=by simp;omega
 rw [this,List.append_assoc];rfl
abbrev tnE(ks:List Int)(cut i k:Int):LEnv:=[.any,.isl 1 (ints ks),.int i64 cut,.ptr 0 0,.any,.any,.ptr 1 0,.int i64 i,.any,.ptr 2 0,.int i64 i,.ptr 3 0,.any,.any,.sl 1 4 0 64 none,.int i64 k,.any,.any,.any,.any,.any,.any,.any,.any,.any,.any,.any,.any,.any,.any,.any,.any,.any,.any,.any,.any,.any,.any,.any,.any,.any,.any,.any,.any,.any,.any,.any,.any,.any,.any,.any,.any,.any,.any,.any,.any,.any,.any,.any,.any,.any,.any,.any,.any,.any,.any,.any,.any,.any,.any,.any,.any,.any,.any,.any,.any,.any,.any,.any,.any,.any,.any,.any,.any,.any,.any,.any,.any,.any,.any,.any,.any,.any,.any,.any,.any,.any]
abbrev tnX(ks:List Int)(cut i k:Int):LEnv:=[.any,.isl 1 (ints ks),.int i64 cut,.ptr 0 0,.any,.any,.ptr 1 0,.int i64 i,.any,.ptr 2 0,.int i64 i,.ptr 3 0,.any,.any,.sl 1 4 0 64 none,.int i64 k,.any,.any,.any,.any,.any,.any,.any,.any,.any,.any,.any,.any,.any,.any,.any,.any,.any,.any,.any,.any,.any,.any,.any,.any,.any,.any,.any,.any,.any,.any,.any,.any,.any,.any,.any,.any,.any,.any,.any,.any,.any,.any,.any,.any,.any,.any,.any,.any,.any,.any,.any,.any,.any,.any,.any,.any,.any,.any,.int i64 k,.int i64 cut,.bool (decide (k<cut)),.any,.any,.any,.any,.any,.any,.any,.any,.any,.any,.any,.any,.any,.any,.any,.any,.any,.any,.any,.any]
abbrev tnS(rm:Int)(m:ML)(p:PL)(c:ML)(a:Int)(b l:List Int):St:=⟨5,[(0,LObj.box 36 [.int i64 rm,.isl 2 (Z1 m),.isl 3 (Z5 p)]),(1,LObj.box 36 [.int i64 0,.nils,.nils]),(2,LObj.box 36 [.int i64 rm,.isl 2 (Z1 c),.nils]),(3,LObj.box 121 [.int i64 a,.bool false,.isl 1 (bys b)]),(4,LObj.row 5 1 (bys l))]⟩
theorem tn_step(n fu:Nat)(rm:Int)(m:ML)(p:PL)(c:ML)(a:Int)(b o:List Int)(hb:b.length=64)(ho:o.length=64)(ks:List Int)(cut i:Int)(hc2:cut<64)(k:Nat)(hk:(k:Int)<cut)(r:LX × LEnv × St)(hr:Z2 prog Ck (n+60) 17 2 0 fu (tnE ks cut i ((k:Int)+1)) (tnS rm m p c a b (tnL b o (k+1)))=some r):Z2 prog Ck (n+60) 17 2 0 (fu+1) (tnE ks cut i k) (tnS rm m p c a b (tnL b o k))=some r:=by
 have e:=tnL_set b o k hb ho (by omega)
 have e2:=tnL_len b o k hb ho (by omega)
 have f1:decide ((↑k:Int)<cut)=true:=by simp;omega
 have f2:(bys b)[Int.toNat (↑k:Int)]? = some (LV.int IntKind.u8 (atI b k)):=by simp (disch:=omega)
 have f3:0<=(↑k:Int)/\(↑k:Int)<((bys b).length:Int):=by simp;omega
 have f4:0<=(↑k:Int)/\(↑k:Int)<64:=by omega
 have f5:LV.pel 1 4 (0+Int.toNat (↑k:Int)) 0=LV.pel 1 4 k 0:=by simp
 have f6:(bys (tnL b o k))[k]? = some (LV.int IntKind.u8 (atI (tnL b o k) k)):=by simp (disch:=omega)
 have f7:LObj.row 5 1 (List.set (bys (tnL b o k)) k (LV.int IntKind.u8 (atI b k)))=LObj.row 5 1 (bys (tnL b o (k+1))):=by simp (disch:=omega) [-List.reduceReplicate,hb,ho,hc2,hk,hr,e,e2]
 have f8:LV.int i64 (IntKind.wrap i64 ((↑k:Int)+1))=LV.int i64 ((↑k:Int)+1):=by simp (disch:=omega)
 have f9:=hr;exact dlp (fun h=>ai (congrArg LV.bool f1)<|ai (f3)<|ai (f2)<|ai (f4)<|ai (f5)<|ai (f6)<|ai (congrArg some f7)<|ai (f8)<|ai (Eq.refl (Z9 f9))<|ai (f9)<|h) (.i (.s (.s (.a) (.b true (.a))) (.s (.k (.r [.a,.a,.a,.a,.a,.e (rOf f2),.a,.v (vOf f5) (.q),.x 4 (vOf f7) (.e (rOf f6))])) (.r [.a,.v (vOf f8) (.a)]))) (.h [] (eOf f9) (Zp f9) (rOf f9))) (by kernel_rfl)
theorem tn_end(n fu:Nat)(rm:Int)(m:ML)(p:PL)(c:ML)(a:Int)(b l:List Int)(hb:b.length=64)(hl:l.length=64)(ks:List Int)(cut i:Int)(k:Int)(hk:cut<=k):
  Z2 prog Ck (n+60) 17 2 0 (fu+1) (tnE ks cut i k) (tnS rm m p c a b l)=some (.exit 4,tnX ks cut i k,tnS rm m p c a b l):=by
 have f1:decide (k<cut)=false:=by simp;omega
 exact dlp (fun h=>ai (congrArg LV.bool f1)<|h) (.i (.s (.s (.a) (.b false (.a))) .a) (.a)) (by kernel_rfl)
theorem tn_loop(n:Nat)(rm:Int)(m:ML)(p:PL)(c:ML)(a:Int)(b o:List Int)(hb:b.length=64)(ho:o.length=64)(ks:List Int)(cut i:Int)(hc2:cut<64):∀ (j k fu:Nat),(k:Int)+j=max cut 0->j<fu ->
  Z2 prog Ck (n+60) 17 2 0 fu (tnE ks cut i k) (tnS rm m p c a b (tnL b o k))=some (.exit 4,tnX ks cut i (max cut 0),tnS rm m p c a b (tnL b o cut.toNat))
 | 0,k,fu,hk,hf=>by
  obtain ⟨fu,rfl⟩:∃ q,fu=q+1:=⟨fu-1,by omega⟩
  have e:cut.toNat=k:=by omega
  have e2:max cut 0=(k:Int):=by omega
  rw [e,e2];exact tn_end n fu rm m p c a b _ hb (tnL_len b o k hb ho (by omega)) ks cut i k (by omega)
 | j+1,k,fu,hk,hf=>by
  obtain ⟨fu,rfl⟩:∃ q,fu=q+1:=⟨fu-1,by omega⟩
  exact tn_step n fu rm m p c a b o hb ho ks cut i hc2 k (by omega) _ (tn_loop n rm m p c a b o hb ho ks cut i hc2 j (k+1) fu (by omega) (by omega))
theorem xc_torn(n fu:Nat)(rm:Int)(m:ML)(p:PL)(hp:p.length<=1000)(hm:m.length<=100000)(c c':ML)(ks:List Int)(cut:Int)(i:Int)(h0:0<=i)(hi:i<(p.length:Int))(hk:i<(ks.length:Int))(h:¬ atI ks i.toNat=0)(hc:0<=cut)(hc2:cut<64)(a:Int)(b:List Int)(hx:(Z5 p)[i.toNat]? = some (.agg [.int .i64 a,.bool false,.isl 1 (bys b)]))(hb:b.length=64)(e:Bool)(o:List Int)(ho:o.length<=64)(Fd:∀ j,200<j+20->Z6 prog Ck (Z3 prog Ck (j+20)) (j+20) 57 [.isl 2 (Z1 c),.int .i64 a] ⟨0,[]⟩=some (.tup [.isl 1 (bys o),.bool e],⟨0,[]⟩))(U:∀ j,200<j->Z6 prog Ck (Z3 prog Ck (j+40)) (j+40) 59 [.isl 2 (Z1 c),.agg [.int .i64 a,.bool false,.isl 1 (bys (tnL b (blk o) cut.toNat))]] ⟨0,[]⟩=some (.isl 2 (Z1 c'),⟨0,[]⟩))(hn:300<n)(r:LX × LEnv × St)(hr:Z2 prog Ck (n+60) 17 1 0 fu (xcE ks cut i (i+1)) (syS rm m p c')=some r):Z2 prog Ck (n+60) 17 1 0 (fu+1) (xcE ks cut i i) (syS rm m p c)=some r:=by
 have L:=tn_loop n rm m p c a b (blk o) hb (blk_length o) ks cut i hc2 cut.toNat 0 (n+60) (by omega) (by omega)
 have e0:tnL b (blk o) 0=blk o:=by simp [tnL]
 have e1:((0:Nat):Int)=0:=rfl;have e2:max cut 0=cut:=by omega
 have e3:=tnL_len b (blk o) cut.toNat hb (blk_length o) (by omega)
 rw [e0,e1,e2] at L;have f1:decide (i<((Z5 p).length:Int))=true:=by simp;omega
 have f2:=kept_1I (n+49) ks i h0 hk h;have f3:(Z5 p)[i.toNat]? = some (LV.agg [.int i64 a,.bool false,.isl 1 (bys b)]):=hx;have f4:0<=i/\i<((Z5 p).length:Int):=by simp;omega
 have f5:decide (i=i)=true:=by simp
 have f6:=zq9_0 i;have f7:LV.bool (if true=true then decide (0<=cut) else false)=LV.bool true:=by simp;omega
 have f8:LV.bool (if true=true then decide (cut<64) else false)=LV.bool true:=by simp;omega
 have f9:=Fd (n+39) (by omega)
 have f10:=padc_ok (n+39) o ho (by omega)
 have f11:=L
 have f12:(if 4=4 then if 1=1/\0+64<=List.length (bys (tnL b (blk o) (cut.toNat)))/\X1 64 none=true then LV.isl 1 (List.take 64 (List.drop 0 (bys (tnL b (blk o) (cut.toNat))))) else LV.any else LV.sl 1 4 0 64 none)=LV.isl 1 (bys (tnL b (blk o) (cut.toNat))):=by simp (disch:=first | omega | (simp;omega)) [-List.reduceReplicate,if_pos,if_neg]
 have f13:LV.agg [.int i64 a,.bool false,if 4=4 then if 1=1/\0+64<=List.length (bys (tnL b (blk o) (cut.toNat)))/\X1 64 none=true then LV.isl 1 (List.take 64 (List.drop 0 (bys (tnL b (blk o) (cut.toNat))))) else LV.any else LV.sl 1 4 0 64 none]=LV.agg [.int i64 a,.bool false,.isl 1 (bys (tnL b (blk o) (cut.toNat)))]:=by simp (disch:=first | omega | (simp;omega)) [-List.reduceReplicate,if_pos,if_neg]
 have f14:LObj.box 121 [.int i64 a,.bool false,if 4=4 then if 1=1/\0+64<=List.length (bys (tnL b (blk o) (cut.toNat)))/\X1 64 none=true then LV.isl 1 (List.take 64 (List.drop 0 (bys (tnL b (blk o) (cut.toNat))))) else LV.any else LV.sl 1 4 0 64 none]=LObj.box 121 [.int i64 a,.bool false,.isl 1 (bys (tnL b (blk o) (cut.toNat)))]:=by simp (disch:=first | omega | (simp;omega)) [-List.reduceReplicate,if_pos,if_neg]
 have f15:=U (n+19) (by omega)
 have f16:LV.int i64 (IntKind.wrap i64 (i+1))=LV.int i64 (i+1):=by simp (disch:=omega)
 have f17:=hr;exact dlp (fun h=>ai (congrArg LV.bool f1)<|ai (f2)<|ai (f4)<|ai (f3)<|ai (congrArg some f5)<|ai (congrArg some f5)<|ai (congrArg some f5)<|ai (f6)<|ai (f7)<|ai (f8)<|ai (f9)<|ai (f10)<|ai (Eq.refl (Z9 f11))<|ai (f11)<|ai (f12)<|ai (f12)<|ai (f13)<|ai (f13)<|ai (congrArg some f14)<|ai (f15)<|ai (f16)<|ai (Eq.refl (Z9 f17))<|ai (f17)<|h) (.i (.s (.s (.a) (.b true (.a))) (.s (.k (.s (.s (.r [.a,.a,.f (rOf f2)]) (.a)) (.s (.r [.a,.a,.a,.e (rOf f3)]) (.s (.s (.r [.a,.a,.a,.a,.g true (.a),.g true (.a),.g true (.a),.v (vOf f6) (.a),.a,.a,.a,.v (vOf f7) (.a),.a,.a,.a,.v (vOf f8) (.a)]) (.c (.s (.r [.a,.a,.a,.a,.f (rOf f9)]) (.s (.r [.a,.f (rOf f10)]) (.s (.s (.a) (.k (.l (.h [] (eOf f11) (Zp f11) (rOf f11))))) (.a)))))) (.r [.a,.a,.a,.z [.y 14 (vOf f12),.y 89 (vOf f12),.y 90 (vOf f13),.y 93 (vOf f13),.x 3 (vOf f14)] (.f (rOf f15))]))))) (.r [.a,.v (vOf f16) (.a)]))) (.h [] (eOf f17) (Zp f17) (rOf f17))) (by kernel_rfl)
end Go.Mac
namespace Go.Mac
open Go Go.Eng Go.Proofs Go.Mac.Nd
open Go.IntKind (i64)
open Go.Proofs.Tryz (prog)
set_option maxHeartbeats 0
set_option maxRecDepth 100000
theorem xc_thru(n:Nat)(rm:Int)(m:ML)(p:PL)(hp:p.length<=1000)(hm:m.length<=100000)(c:ML)(ks:List Int)(cut last:Int)(L1:Z2 prog Ck (n+60) 17 0 0 (n+60) (xkE ks cut (-1) 0) (xkS rm m p)=some (.exit 0,xkX p ks cut last p.length,xkS rm m p))(L2:Z2 prog Ck (n+60) 17 1 0 (n+60) (xcE ks cut last 0) (syS rm m p m)=some (.exit 2,xcX p ks cut last p.length,syS rm m p c)):
  Z6 prog Ck (Z3 prog Ck (n+60)) (n+60) 17 [rR rm m p,.isl 1 (ints ks),.int .i64 cut] ⟨0,[]⟩=some (.agg [.int .i64 rm,.isl 2 (Z1 c),.isl 3 []],⟨0,[]⟩):=by
 have f1:=L1;have f2:=L2;exact drn (fun h=>ai (Eq.refl (Z9 f1))<|ai (f1)<|ai (Eq.refl (Z9 f2))<|ai (f2)<|h) (.s (.a) (.s (.a) (.s (.s (.a) (.k (.l (.h [] (eOf f1) (Zp f1) (rOf f1))))) (.s (.a) (.s (.s (.a) (.k (.l (.h [] (eOf f2) (Zp f2) (rOf f2))))) (.a)))))) [] .a (by kernel_rfl)
theorem xk_loop(n:Nat)(rm:Int)(m:ML)(p:PL)(hp:p.length<=1000)(hm:m.length<=100000)(ks:List Int)(cut:Int):∀ (j k fu:Nat),k+j=p.length->j<fu ->
  Z2 prog Ck (n+60) 17 0 0 fu (xkE ks cut (Yg ks k) k) (xkS rm m p)=some (.exit 0,xkX p ks cut (Yg ks p.length) p.length,xkS rm m p)
 | 0,k,fu,hk,hf=>by
  obtain ⟨fu,rfl⟩:∃ q,fu=q+1:=⟨fu-1,by omega⟩
  obtain rfl:k=p.length:=by omega
  exact xk_end n fu rm m p hp hm ks cut _ _ (by omega)
 | j+1,k,fu,hk,hf=>by
  obtain ⟨fu,rfl⟩:∃ q,fu=q+1:=⟨fu-1,by omega⟩
  have ih:=xk_loop n rm m p hp hm ks cut j (k+1) fu (by omega) (by omega)
  by_cases h1:k<ks.length
  ·by_cases h2:atI ks k=0
   ·have e:Yg ks (k+1)=Yg ks k:=by simp [Yg,h2]
    rw [e] at ih;exact xk_miss n fu rm m p hp hm ks cut _ k (by omega) h1 h2 _ ih
   ·have e:Yg ks (k+1)=k:=by simp [Yg,h1,h2]
    rw [e] at ih;exact xk_hit n fu rm m p hp hm ks cut _ k (by omega) h1 h2 _ ih
  ·have e:Yg ks (k+1)=Yg ks k:=by simp [Yg,h1]
   rw [e] at ih;exact xk_over n fu rm m p hp hm ks cut _ k (by omega) (by omega) _ ih
theorem lastK_max(ks:List Int)(k:Nat)(h1:k<ks.length)(h2:¬ atI ks k=0):∀ N,k<N->(k:Int)<=Yg ks N
 | 0,h=>by omega
 | N+1,h=>by
  simp only [Yg]
  split
  ·omega
  ·rename_i q
   by_cases e:k=N
   ·subst e;exact absurd ⟨h1,h2⟩ q
   ·exact lastK_max ks k h1 h2 N (by omega)
theorem atI_over(ks:List Int)(k:Nat)(h:ks.length<=k):atI ks k=0:=by
 unfold atI;simp [List.getElem?_eq_none h]
theorem tnL_splice(b c:List Int)(k:Nat)(hb:b.length=64)(hk:k<=64):tnL b c k=Ze c 0 (b.take k):=by
 unfold tnL Ze;have:(b.take k).length=k:=by rw [List.length_take];omega
 simp [this]
theorem cur_blk{m:ML}(h:∀ x∈m,x.2.length=64)(a:Int):blk ((mget m a).getD [])=cur m a/\((mget m a).getD []).length<=64:=by
 unfold cur
 cases hg:mget m a with
 | none=>exact ⟨blk_nil,by simp⟩
 | some b =>
  have:∀ m:ML,mget m a=some b->∃ x∈m,x.2=b:=by
   intro m
   induction m with
   | nil=>simp [mget]
   | cons y m ih =>
    obtain ⟨k,v⟩:=y
    simp only [mget]
    split
    ·intro h;injection h with h;exact ⟨(k,v),by simp,h⟩
    ·intro h;obtain ⟨x,h1,h2⟩:=ih h;exact ⟨x,by simp [h1],h2⟩
  obtain ⟨x,q1,q2⟩:=this m hg;have h3:b.length=64:=by rw [<- q2];exact h x q1
  refine ⟨?_,by simp only [Option.getD_some];omega⟩
  simp [blk_of64 h3]
theorem xc_loop(n:Nat)(rm:Int)(m:ML)(p:PL)(hp:p.length<=100)(hm:m.length<=100)(hq:okQ p)(ks:List Int)(cut:Int)(hn:300<n):∀ (q:PL) (k fu:Nat) (c:ML),p.drop k=q->k<=p.length->q.length<fu->okM c->c.length<=m.length+k ->
  Z2 prog Ck (n+60) 17 1 0 fu (xcE ks cut (Yg ks p.length) k) (syS rm m p c)=some (.exit 2,xcX p ks cut (Yg ks p.length) p.length,syS rm m p (crashM ks cut (Yg ks p.length) q k c))
 | [],k,fu,c,hd,hk,hf,hA,hc=>by
  obtain ⟨fu,rfl⟩:∃ q,fu=q+1:=⟨fu-1,by omega⟩
  have:p.length<=k:=by simpa using hd
  obtain rfl:k=p.length:=by omega
  exact xc_end n fu rm m p (by omega) (by omega) c ks cut _ _ (by omega)
 | (a,o)::q,k,fu,c,hd,hk,hf,hA,hc=>by
  obtain ⟨fu,rfl⟩:∃ q,fu=q+1:=⟨fu-1,by simp at hf;omega⟩
  obtain ⟨hx,hlt,hd2⟩:=drop_head hd;have hmem:=hq _ (List.mem_of_getElem? hx);have ih:=fun c' h1 h2=>xc_loop n rm m p hp hm hq ks cut hn q (k+1) fu c' hd2 (by omega) (by simp at hf;omega) h1 h2
  by_cases h1:k<ks.length
  ·by_cases h2:atI ks k=0
   ·rw [crashM,show stepM ks cut (Yg ks p.length) k c (a,o)=c by unfold stepM;rw [if_pos (.inr h2)]]
    exact xc_lost n fu rm m p (by omega) (by omega) c c ks cut _ k (by omega) (by omega) (by omega) h2 hn _ (ih c hA (by omega))
   ·have hle:=lastK_max ks k h1 h2 p.length hlt
    have hng:¬ (Yg ks p.length<(k:Int)∨atI ks k=0):=by rintro (e | e);omega;exact h2 e
    rw [crashM];unfold stepM;rw [if_neg hng]
    cases o with
    | none =>
     have hl:(mdel c a).length<=c.length:=(mdel_sub a c).length_le;have I:=ih (mdel c a) (hA.del a) (by omega)
     have U:=fun j (hj:200<j)=>putf_ck j c (by omega) hA.1 a (by omega)
     by_cases e:(k:Int)=Yg ks p.length
     ·rw [<- e] at I ⊢
      exact xc_free2 n fu rm m p (by omega) (by omega) c _ ks cut k (by omega) (by omega) (by omega) h2 a (Wu hx) U hn _ I
     ·exact xc_free1 n fu rm m p (by omega) (by omega) c _ ks cut _ k (by omega) (by omega) (by omega) h2 (by omega) a (Wu hx) U hn _ I
    | some b =>
     have hb:=hmem.2 b rfl
     by_cases e:(k:Int)=Yg ks p.length
     ·by_cases hcut:0<=cut/\cut<64
      ·simp only [e,hcut,and_self,if_true]
       obtain ⟨g1,g2⟩:=cur_blk (fun x hx=>(hA.2 x hx).2) a
       have hs:=tnL_splice b (cur c a) cut.toNat hb (by omega)
       have hlen:(Ze (cur c a) 0 (b.take cut.toNat)).length=64:=by rw [<- hs];exact tnL_len b _ _ hb (cur_length c a) (by omega)
       have hl:=mput2_len c a (Ze (cur c a) 0 (b.take cut.toNat));have I:=ih _ (hA.put hmem.1 hlen) (show (W6 c a (Ze (cur c a) 0 (b.take cut.toNat))).length<=_ by omega)
       have U:=fun j (hj:200<j)=>put_ck j c (by omega) hA.1 a (Ze (cur c a) 0 (b.take cut.toNat)) (by omega)
       rw [<- hs,<- g1] at I U;rw [<- hs,<- g1];rw [<- e] at I ⊢;exact xc_torn n fu rm m p (by omega) (by omega) c _ ks cut k (by omega) (by omega) (by omega) h2 hcut.1 hcut.2 a b (Xg hx) hb (mget c a).isSome ((mget c a).getD []) g2 (fun j hj=>find_ck j c (by omega) a (by omega)) U hn _ I
      ·have hneg:¬ ((k:Int)=Yg ks p.length/\0<=cut/\cut<64):=by rintro ⟨_,e1,e2⟩;exact hcut ⟨e1,e2⟩
       simp only [if_neg hneg];have hl:=mput2_len c a b;have I:=ih _ (hA.put hmem.1 hb) (show (W6 c a b).length<=_ by omega)
       have U:=fun j (hj:200<j)=>put_ck j c (by omega) hA.1 a b (by omega)
       rw [<- e] at I ⊢
       by_cases h0:cut<0
       ·exact xc_put2 n fu rm m p (by omega) (by omega) c _ ks cut k (by omega) (by omega) (by omega) h2 h0 a b (Xg hx) U hn _ I
       ·exact xc_put3 n fu rm m p (by omega) (by omega) c _ ks cut k (by omega) (by omega) (by omega) h2 (by omega) a b (Xg hx) U hn _ I
     ·have hneg:¬ ((k:Int)=Yg ks p.length/\0<=cut/\cut<64):=by rintro ⟨e1,_⟩;exact e e1
      simp only [if_neg hneg];have hl:=mput2_len c a b;have I:=ih _ (hA.put hmem.1 hb) (show (W6 c a b).length<=_ by omega)
      have U:=fun j (hj:200<j)=>put_ck j c (by omega) hA.1 a b (by omega)
      exact xc_put1 n fu rm m p (by omega) (by omega) c _ ks cut _ k (by omega) (by omega) (by omega) h2 (by omega) a b (Xg hx) U hn _ I
  ·rw [crashM,show stepM ks cut (Yg ks p.length) k c (a,o)=c by unfold stepM;rw [if_pos (.inr (atI_over ks k (by omega)))]]
   exact xc_over n fu rm m p (by omega) (by omega) c c ks cut _ k (by omega) (by omega) (by omega) hn _ (ih c hA (by omega))
theorem crash_ck(n:Nat)(rm:Int)(m:ML)(p:PL)(hp:p.length<=100)(hm:m.length<=100)(hq:okQ p)(hM:okM m)(ks:List Int)(cut:Int)(hn:300<n):
  Z6 prog Ck (Z3 prog Ck (n+60)) (n+60) 17 [rR rm m p,.isl 1 (ints ks),.int .i64 cut] ⟨0,[]⟩=some (rR rm (V6 m p ks cut) [],⟨0,[]⟩):=
 xc_thru n rm m p (by omega) (by omega) _ ks cut (Yg ks p.length) (xk_loop n rm m p (by omega) (by omega) ks cut p.length 0 (n+60) (by omega) (by omega)) (xc_loop n rm m p hp hm hq ks cut hn p 0 (n+60) m rfl (by omega) (by omega) hM (by omega))
theorem crash_c0(n:Nat)(rm:Int)(m:ML)(p:PL)(hp:p.length<=100)(hm:m.length<=100)(hq:okQ p)(hM:okM m)(ks:List Int)(cut:Int):
  Z6 prog C0 (Z3 prog C0 (n+10)) (n+10) 17 [rR rm m p,.isl 1 (ints ks),.int .i64 cut] ⟨0,[]⟩=some (rR rm (V6 m p ks cut) [],⟨0,[]⟩):=
 x_runx (C:=C0) (G:=via 17) rfl (lcall_nil («as»:=[rR rm m p,.isl 1 (ints ks),.int .i64 cut]) rfl (crash_ck 539 rm m p hp hm hq hM ks cut (by omega))) (by kernel_rfl)
@[simp] theorem eqbL_cellsR:∀ m:ML,LV.eqbL (Z1 m) (Z1 m)=true
 | []=>rfl
 | (a,b)::m=>by
  show LV.eqbL (cellR (a,b)::Z1 m) (cellR (a,b)::Z1 m)=true
  simp [cellR,LV.eqbL,LV.eqb,eqbL_cellsR m]
@[simp] theorem eqbL_loosR:∀ p:PL,LV.eqbL (Z5 p) (Z5 p)=true
 | []=>rfl
 | (a,some b)::p=>by
  show LV.eqbL (looR (a,some b)::Z5 p) (looR (a,some b)::Z5 p)=true
  simp [looR,LV.eqbL,LV.eqb,eqbL_loosR p]
 | (a,none)::p=>by
  show LV.eqbL (looR (a,none)::Z5 p) (looR (a,none)::Z5 p)=true
  simp [looR,LV.eqbL,LV.eqb,eqbL_loosR p]
abbrev slB(at_ t:Int)(vc:LV)(lo:Bool):LObj:=.box 106 [.ptr 0 0,.int .i64 at_,.int .i64 t,vc,.bool lo]
abbrev rsB(rm:Int)(m:ML)(p:PL)(at_ t:Int)(w:List Int)(lo:Bool):LObj:=.box 39 [.int .i64 rm,.isl 2 (Z1 m),.isl 3 (Z5 p),.int .i64 at_,.int .i64 t,.isl 1 (bys w),.bool lo]
abbrev sdE(at_:Int)(l:List Act4)(i:Int):LEnv:=[.any,.int i64 at_,.isl 4 (Zf l),.any,.any,.any,.any,.ptr 0 0,.any,.ptr 1 0,.any,.ptr 2 0,.int i64 0,.int i64 i,.any,.any,.any,.any,.any,.any,.any,.any,.any,.any,.any,.any,.any,.any,.any,.any,.any,.any,.any,.any,.any,.any,.any,.any,.any,.any,.any,.any,.any,.any,.any,.any,.any,.any,.any,.any,.any,.any,.any,.any,.any,.any,.any,.any,.any,.any,.any,.any,.any,.any,.any,.any,.any,.any,.any,.any,.any,.any,.any,.any,.any,.any,.any,.any,.any,.any,.any,.any,.any,.any,.any,.any,.any,.any,.any,.any,.any,.any,.any,.any,.any,.any,.any,.any,.any,.any,.any,.any,.any,.any,.any,.any,.any,.any,.any,.any,.any,.any,.any,.any,.any,.any,.any,.any,.any,.any,.any,.any,.any,.any,.any,.any,.any,.any,.any,.any,.any,.any,.any,.any,.any,.any,.any,.any,.any,.any,.any,.any,.any,.any,.any,.any,.any,.any,.any,.any,.any,.any,.any,.any,.any,.any,.any,.any,.any,.any,.any,.any,.any,.any,.any,.any,.any,.any,.any,.any,.any,.any,.any,.any,.any,.any,.any,.any,.any,.any,.any,.any,.any,.any,.any,.any,.any,.any,.any,.any,.any,.any,.any,.any,.any,.any,.any,.any,.any,.any,.any]
abbrev sdX(at_:Int)(l:List Act4)(i:Int):LEnv:=[.any,.int i64 at_,.isl 4 (Zf l),.any,.any,.any,.any,.ptr 0 0,.any,.ptr 1 0,.any,.ptr 2 0,.int i64 0,.int i64 (l.length:Int),.any,.any,.any,.any,.any,.any,.any,.any,.any,.any,.any,.any,.any,.any,.any,.any,.any,.any,.any,.any,.any,.any,.any,.any,.any,.any,.any,.any,.any,.any,.any,.any,.any,.any,.any,.any,.any,.any,.any,.any,.any,.any,.any,.any,.any,.any,.any,.any,.any,.any,.any,.int i64 (l.length:Int),.isl 4 (Zf l),.int i64 ((Zf l).length:Int),.bool (decide ((l.length:Int)<((Zf l).length:Int))),.bool (decide ((l.length:Int)<((Zf l).length:Int))),.any,.any,.bool false,.any,.any,.any,.any,.any,.any,.any,.any,.any,.any,.any,.any,.any,.any,.any,.any,.any,.any,.any,.any,.any,.any,.any,.any,.any,.any,.any,.any,.any,.any,.any,.any,.any,.any,.any,.any,.any,.any,.any,.any,.any,.any,.any,.any,.any,.any,.any,.any,.any,.any,.any,.any,.any,.any,.any,.any,.any,.any,.any,.any,.any,.any,.any,.any,.any,.any,.any,.any,.any,.any,.any,.any,.any,.any,.any,.any,.any,.any,.any,.any,.any,.any,.any,.any,.any,.any,.any,.any,.any,.any,.any,.any,.any,.any,.any,.any,.any,.any,.any,.any,.any,.any,.any,.any,.any,.any,.any,.any,.any,.any,.any,.any,.any,.any,.any,.any,.any,.any,.any,.any,.any,.any,.any,.any,.any,.any,.any,.any]
abbrev sdS(rm:Int)(m:ML)(p:PL)(at_ t:Int)(vc:LV)(w:List Int)(lo:Bool):St:=⟨3,[(0,dO rm m p),(1,slB at_ t vc lo),(2,rsB rm m p at_ t w lo)]⟩
abbrev FM(w:List Int):Prop:=∀ j,300<j->Z6 prog C0 (Z3 prog C0 (j+20)) (j+20) 19 [.isl 1 (bys w),.isl 1 (bys w)] ⟨0,[]⟩=some (.bool true,⟨0,[]⟩)
abbrev FC(rm:Int)(m:ML)(p:PL):Prop:=∀ j,300<j->Z6 prog C0 (Z3 prog C0 (j+60)) (j+60) 22 [.ptr 0 0] ⟨1,[(0,dO rm m p)]⟩=some (.isl 2 (Z1 m),⟨1,[(0,dO rm m p)]⟩)
abbrev FK(m:ML):Prop:=∀ j,300<j->Z6 prog C0 (Z3 prog C0 (j+40)) (j+40) 21 [.isl 2 (Z1 m),.isl 2 (Z1 m)] ⟨0,[]⟩=some (.bool true,⟨0,[]⟩)
abbrev FO(rm:Int)(m:ML)(p:PL)(at_ t:Int)(vc:LV):Prop:=∀ j,300<j->Z6 prog C0 (Z3 prog C0 (j+80)) (j+80) 9 [.ptr 0 0,.int .i64 at_] ⟨1,[(0,dO rm m p)]⟩=some (.tup [.ptr 1 0,.nili],⟨2,[(0,dO rm m p),(1,slB at_ t vc false)]⟩)
abbrev FR(rm:Int)(m:ML)(p:PL)(at_ t:Int)(w:List Int):Prop:=∀ j,300<j->Z6 prog C0 (Z3 prog C0 (j+100)) (j+100) 10 [rR rm m p,.int .i64 at_] ⟨0,[]⟩=some (.tup [sR rm m p at_ t w false,.int .i64 0],⟨0,[]⟩)
theorem zq9_1(a0:List Act4):LV.int i64 ((Zf a0).length:Int)=LV.int i64 (a0.length:Int):=by simp
theorem V3(a0:ML):LObj.map i64 (List.zip (Zn a0) (Yl a0))=LObj.map i64 (Zq a0):=by simp
theorem V2(a0:Int)(a1:PL)(q0:Nat)(q1:Nat):LObj.box 97 [.int i64 a0,.map q0,.sl 2 q1 0 (List.length (Zg a1)) none]=LObj.box 97 [.int i64 a0,.map q0,.sl 2 q1 0 (List.length a1) none]:=by simp
theorem zq9_4(a0:Int)(a1:Int)(a2:List Int)(a3:Bool)(q0:Nat):LObj.box 106 [.ptr 0 0,.int i64 a0,.int i64 a1,.sl 1 q0 0 (List.length (bys a2)) none,.bool a3]=LObj.box 106 [.ptr 0 0,.int i64 a0,.int i64 a1,.sl 1 q0 0 (List.length a2) none,.bool a3]:=by simp
theorem zq9_5(a0:Int)(a1:ML)(a2:PL):LObj.box 97 [.int i64 a0,.omap i64 (List.map (·.1) (Zq a1)) (List.map (·.2) (Zq a1)),.own 116 2 (Zg a2)]=LObj.box 97 [.int i64 a0,.omap i64 (Zn a1) (Yl a1),.own 116 2 (Zg a2)]:=by simp
theorem zq9_6(a0:Int):(LV.bool !decide (a0=a0))=LV.bool false:=by simp
theorem zq9_7(a0:Int):Xf (!decide (a0=a0)) (LV.bool true) (LV.bool false)=some (LV.bool false):=by simp
theorem zq9_8(a0:Int):LV.eqb (LV.int i64 a0) (LV.int i64 a0)=true:=by simp
theorem zq9_9(a0:List Int):LV.eqb (LV.isl 1 (bys a0)) (LV.isl 1 (bys a0))=true:=by simp
theorem Wg(a0:ML):LV.eqb (LV.isl 2 (Z1 a0)) (LV.isl 2 (Z1 a0))=true:=by simp
theorem zq9_11(a0:PL):LV.eqb (LV.isl 3 (Z5 a0)) (LV.isl 3 (Z5 a0))=true:=by simp
theorem zq9_12(a0:PL):LV.eqb (LV.int i64 ((Z5 a0).length:Int)) (LV.int i64 ((Z5 a0).length:Int))=true:=by simp
theorem zq9_13(a0:PL):LV.bool (if false=true then true else !decide ((a0.length:Int)=((Z5 a0).length:Int)))=LV.bool false:=by simp
theorem sd_eO(n fu:Nat)(rm at_:Int)(l:List Act4)(hl:l.length<=60)(i:Int)(hi0:0<=i)(hi:i<(l.length:Int))(c:Int)(b ks:List Int)(hx:(Zf l)[i.toNat]? = some (.agg [.int .i64 0,.isl 1 (bys b),.isl 1 (ints ks),.int .i64 c]))(hn:400<=n)(m m':ML)(p p':PL)(t t':Int)(w w':List Int)(lo:Bool)(hp:p.length<=1000)(hp':p'.length<=1000)(hw:w.length<=100)(hw':w'.length<=100)(hb:b.length<=100)(op:List UInt8)(a e:Int)(P:∀ j,Z6 prog C0 (Z3 prog C0 (j+60)) (j+60) 13 [.ptr 0 0,.isl 1 (bys b)] ⟨2,[(0,sO at_ t (vO w) lo),(1,dO rm m p)]⟩=some (flt op a e,⟨2,[(0,sO at_ t (vO w) lo),(1,dO rm m p)]⟩))(R:∀ j,300<j->Z6 prog C0 (Z3 prog C0 (j+300)) (j+300) 12 [sR rm m p at_ t w lo,.isl 1 (bys b)] ⟨0,[]⟩=some (.tup [sR rm m p at_ t w lo,.int .i64 e],⟨0,[]⟩))(M:FM w)(C:FC rm m p)(K:FK m)(r:LX × LEnv × St)(hr:Z2 prog C0 (n+900) 3 0 0 fu (sdE at_ l (i+1)) (sdS rm m p at_ t (vO w) w lo)=some r):
  Z2 prog C0 (n+900) 3 0 0 (fu+1) (sdE at_ l i) (sdS rm m p at_ t (vO w) w lo)=some r:=by
 have f1:decide (i<((Zf l).length:Int))=true:=by simp;omega
 have f2:LV.bool (if decide (i<((Zf l).length:Int))=true then true else false)=LV.bool true:=by simp;omega
 have f3:(Zf l)[i.toNat]? = some (LV.agg [.int i64 0,.isl 1 (bys b),.isl 1 (ints ks),.int i64 c]):=hx;have f4:0<=i/\i<((Zf l).length:Int):=by simp;omega
 have f5:=zq9_1 l;have f6:LV.bool (decide (i<((Zf l).length:Int)))=LV.bool true:=by simp;omega
 have f7:=V3 m;have f8:=V2 rm p 3 4;have f9:=zq9_4 at_ t w lo 5;have f10:=R (n+599) (by omega)
 have f11:List.length (bys w)=List.length w:=by simp
 have f12:List.length (Zg p)=List.length p:=by simp
 have f13:=zq9_5 rm m p;have f14:=P (n+839);have f15:=of_code (n+879) op a e;have f16:(!decide (e=e))=false:=by simp
 have f17:=zq9_6 e;have f18:=zq9_4 at_ t w lo 7;have f19:=V2 rm p 8 9;have f20:=V7 (n+839) at_ t w lo rm m p;have f21:(!decide (t=t))=false:=by simp
 have f22:=Wd (n+839) at_ t w lo rm m p (by omega)
 have f23:=M (n+879) (by omega)
 have f24:=zq9_7 t;have f25:=C (n+839) (by omega)
 have f26:=K (n+859) (by omega)
 have f27:=Yy (n+889) rm m p;have f28:=zq9_8 t;have f29:=zq9_9 w;have f30:=Wg m;have f31:=zq9_11 p;have f32:=zq9_12 p;have f33:=zq9_13 p;have f34:LV.int i64 (IntKind.wrap i64 (i+1))=LV.int i64 (i+1):=by simp (disch:=omega)
 have f35:=hr;exact dlp (fun h=>ai (congrArg some f1)<|ai (congrArg some f1)<|ai (f2)<|ai (f4)<|ai (f3)<|ai (f5)<|ai (f6)<|ai (f6)<|ai (congrArg some f7)<|ai (congrArg some f8)<|ai (congrArg some f9)<|ai (f4)<|ai (f3)<|ai (f10)<|ai (f4)<|ai (f3)<|ai (f11)<|ai (f12)<|ai (congrArg some f13)<|ai (f14)<|ai (f15)<|ai (congrArg LV.bool f16)<|ai (f5)<|ai (f6)<|ai (f6)<|ai (f17)<|ai (congrArg some f7)<|ai (congrArg some f18)<|ai (congrArg some f19)<|ai (f11)<|ai (f12)<|ai (congrArg some f13)<|ai (f20)<|ai (congrArg some f21)<|ai (congrArg some f21)<|ai (f22)<|ai (congrArg some f21)<|ai (congrArg some f21)<|ai (congrArg some f21)<|ai (f23)<|ai (congrArg some f21)<|ai (Yb (st:=(St.mk 10 [(1,LObj.box 106 [.ptr 0 0,.int i64 at_,.int i64 t,.own 5 1 (bys w),.bool lo]),(0,LObj.box 97 [.int i64 rm,.omap i64 (Zn m) (Yl m),.own 116 2 (Zg p)]),(6,LObj.box 39 [.int i64 rm,.isl 2 (Z1 m),.isl 3 (Z5 p),.int i64 at_,.int i64 t,.isl 1 (bys w),.bool lo]),(2,LObj.box 39 [.int i64 rm,.isl 2 (Z1 m),.isl 3 (Z5 p),.int i64 at_,.int i64 t,.isl 1 (bys w),.bool lo])])) f24 rfl)<|ai (f25)<|ai (f26)<|ai (f27)<|ai (f28)<|ai (f28)<|ai (congrArg some f21)<|ai (f29)<|ai (congrArg some f21)<|ai (f29)<|ai (f30)<|ai (f30)<|ai (f31)<|ai (f31)<|ai (f32)<|ai (f32)<|ai (f33)<|ai (f34)<|ai (Eq.refl (Z9 f35))<|ai (f35)<|h) (.i (.s (.s (.r [.a,.a,.a,.a,.a,.g true (.a),.g true (.a),.v (vOf f2) (.a)]) (.a)) (.s (.k (.s (.s (.r [.a,.a,.e (rOf f3)]) (.k (.s (.a) (.c (.s (.d [.y 67 (vOf f5),.y 68 (vOf f6),.y 69 (vOf f6),.x 3 (vOf f7),.x 0 (vOf f8),.x 1 (vOf f9)] [.a,.a,.a,.e (rOf f3),.a,.a,.f (rOf f10),.a,.a,.a,.a] [] [.a,.a]) (.s (.a) (.s (.r [.a,.a,.a,.e (rOf f3),.a,.a,.fr .q [.x 0 (vOf f13)] (rOf f14),.f (rOf f15)]) (.b false (.a))))))))) (.s (.d [.y 67 (vOf f5),.y 68 (vOf f6),.y 69 (vOf f6),.y 102 (vOf f17),.x 8 (vOf f7),.x 1 (vOf f18),.x 0 (vOf f19)] [.a,.fr .q [.x 0 (vOf f13)] (rOf f20),.a,.a,.a,.a,.g false (.a),.g false (.f (rOf f22)),.g false (.a),.g false (.a),.g false (.f (rOf f23)),.g false (.a),.t (rOf (Yb (st:=(St.mk 10 [(1,LObj.box 106 [.ptr 0 0,.int i64 at_,.int i64 t,.own 5 1 (bys w),.bool lo]),(0,LObj.box 97 [.int i64 rm,.omap i64 (Zn m) (Yl m),.own 116 2 (Zg p)]),(6,LObj.box 39 [.int i64 rm,.isl 2 (Z1 m),.isl 3 (Z5 p),.int i64 at_,.int i64 t,.isl 1 (bys w),.bool lo]),(2,LObj.box 39 [.int i64 rm,.isl 2 (Z1 m),.isl 3 (Z5 p),.int i64 at_,.int i64 t,.isl 1 (bys w),.bool lo])])) f24 rfl)),.a,.a,.f (rOf f25),.a,.a,.a,.f (rOf f26),.a,.a,.a,.a,.f (rOf f27),.a,.a,.a,.a] [(true,.a),(true,.a),(true,.g false (.a)),(true,.g false (.a)),(true,.a),(true,.a),(true,.a),(true,.a),(true,.a),(true,.a)] [.a,.v (vOf f33) (.a)]) (.a)))) (.r [.a,.v (vOf f34) (.a)]))) (.h [] (eOf f35) (Zp f35) (rOf f35))) (by kernel_rfl)
theorem zq9_14(a0:Int)(a1:Int)(a2:List Int)(q0:Nat):LObj.box 106 [.ptr 0 0,.int i64 a0,.int i64 a1,.sl 1 q0 0 (List.length (bys a2)) none,.bool false]=LObj.box 106 [.ptr 0 0,.int i64 a0,.int i64 a1,.sl 1 q0 0 (List.length a2) none,.bool false]:=by simp
theorem sd_fO(n fu:Nat)(rm at_:Int)(l:List Act4)(hl:l.length<=60)(i:Int)(hi0:0<=i)(hi:i<(l.length:Int))(c:Int)(b ks:List Int)(hx:(Zf l)[i.toNat]? = some (.agg [.int .i64 0,.isl 1 (bys b),.isl 1 (ints ks),.int .i64 c]))(hn:400<=n)(m m':ML)(p p':PL)(t t':Int)(w w':List Int)(lo:Bool)(hp:p.length<=1000)(hp':p'.length<=1000)(hw:w.length<=100)(hw':w'.length<=100)(hb:b.length<=100)(op op2:List UInt8)(a a2 e:Int)(P:∀ j,Z6 prog C0 (Z3 prog C0 (j+60)) (j+60) 13 [.ptr 0 0,.isl 1 (bys b)] ⟨2,[(0,sO at_ t (vO w) false),(1,dO rm m p)]⟩=some (.ifc 155 (.agg [.str op,.int .i64 a,flt op2 a2 e]),⟨2,[(0,sO at_ t (vO w) false),(1,dO rm m p)]⟩))(R:∀ j,300<j->Z6 prog C0 (Z3 prog C0 (j+300)) (j+300) 12 [sR rm m p at_ t w false,.isl 1 (bys b)] ⟨0,[]⟩=some (.tup [sR rm m p at_ t w false,.int .i64 e],⟨0,[]⟩))(M:FM w)(C:FC rm m p)(K:FK m)(r:LX × LEnv × St)(hr:Z2 prog C0 (n+900) 3 0 0 fu (sdE at_ l (i+1)) (sdS rm m p at_ t (vO w) w false)=some r):
  Z2 prog C0 (n+900) 3 0 0 (fu+1) (sdE at_ l i) (sdS rm m p at_ t (vO w) w false)=some r:=by
 have f1:decide (i<((Zf l).length:Int))=true:=by simp;omega
 have f2:LV.bool (if decide (i<((Zf l).length:Int))=true then true else false)=LV.bool true:=by simp;omega
 have f3:(Zf l)[i.toNat]? = some (LV.agg [.int i64 0,.isl 1 (bys b),.isl 1 (ints ks),.int i64 c]):=hx;have f4:0<=i/\i<((Zf l).length:Int):=by simp;omega
 have f5:=zq9_1 l;have f6:LV.bool (decide (i<((Zf l).length:Int)))=LV.bool true:=by simp;omega
 have f7:=V3 m;have f8:=V2 rm p 3 4;have f9:=zq9_14 at_ t w 5;have f10:=R (n+599) (by omega)
 have f11:List.length (bys w)=List.length w:=by simp
 have f12:List.length (Zg p)=List.length p:=by simp
 have f13:=zq9_5 rm m p;have f14:=P (n+839);have f15:=of_wrap (n+879) op op2 a a2 e;have f16:(!decide (e=e))=false:=by simp
 have f17:=zq9_6 e;have f18:=zq9_14 at_ t w 7;have f19:=V2 rm p 8 9;have f20:=V7 (n+839) at_ t w false rm m p;have f21:(!decide (t=t))=false:=by simp
 have f22:=Wd (n+839) at_ t w false rm m p (by omega)
 have f23:=M (n+879) (by omega)
 have f24:=zq9_7 t;have f25:=C (n+839) (by omega)
 have f26:=K (n+859) (by omega)
 have f27:=Yy (n+889) rm m p;have f28:=zq9_8 t;have f29:=zq9_9 w;have f30:=Wg m;have f31:=zq9_11 p;have f32:=zq9_12 p;have f33:=zq9_13 p;have f34:LV.int i64 (IntKind.wrap i64 (i+1))=LV.int i64 (i+1):=by simp (disch:=omega)
 have f35:=hr;exact dlp (fun h=>ai (congrArg some f1)<|ai (congrArg some f1)<|ai (f2)<|ai (f4)<|ai (f3)<|ai (f5)<|ai (f6)<|ai (f6)<|ai (congrArg some f7)<|ai (congrArg some f8)<|ai (congrArg some f9)<|ai (f4)<|ai (f3)<|ai (f10)<|ai (f4)<|ai (f3)<|ai (f11)<|ai (f12)<|ai (congrArg some f13)<|ai (f14)<|ai (f15)<|ai (congrArg LV.bool f16)<|ai (f5)<|ai (f6)<|ai (f6)<|ai (f17)<|ai (congrArg some f7)<|ai (congrArg some f18)<|ai (congrArg some f19)<|ai (f11)<|ai (f12)<|ai (congrArg some f13)<|ai (f20)<|ai (congrArg some f21)<|ai (congrArg some f21)<|ai (f22)<|ai (congrArg some f21)<|ai (congrArg some f21)<|ai (congrArg some f21)<|ai (f23)<|ai (congrArg some f21)<|ai (Yb (st:=(St.mk 10 [(1,LObj.box 106 [.ptr 0 0,.int i64 at_,.int i64 t,.own 5 1 (bys w),.bool false]),(0,LObj.box 97 [.int i64 rm,.omap i64 (Zn m) (Yl m),.own 116 2 (Zg p)]),(6,LObj.box 39 [.int i64 rm,.isl 2 (Z1 m),.isl 3 (Z5 p),.int i64 at_,.int i64 t,.isl 1 (bys w),.bool false]),(2,LObj.box 39 [.int i64 rm,.isl 2 (Z1 m),.isl 3 (Z5 p),.int i64 at_,.int i64 t,.isl 1 (bys w),.bool false])])) f24 rfl)<|ai (f25)<|ai (f26)<|ai (f27)<|ai (f28)<|ai (f28)<|ai (congrArg some f21)<|ai (f29)<|ai (congrArg some f21)<|ai (f29)<|ai (f30)<|ai (f30)<|ai (f31)<|ai (f31)<|ai (f32)<|ai (f32)<|ai (f33)<|ai (f34)<|ai (Eq.refl (Z9 f35))<|ai (f35)<|h) (.i (.s (.s (.r [.a,.a,.a,.a,.a,.g true (.a),.g true (.a),.v (vOf f2) (.a)]) (.a)) (.s (.k (.s (.s (.r [.a,.a,.e (rOf f3)]) (.k (.s (.a) (.c (.s (.d [.y 67 (vOf f5),.y 68 (vOf f6),.y 69 (vOf f6),.x 3 (vOf f7),.x 0 (vOf f8),.x 1 (vOf f9)] [.a,.a,.a,.e (rOf f3),.a,.a,.f (rOf f10),.a,.a,.a,.a] [] [.a,.a]) (.s (.a) (.s (.r [.a,.a,.a,.e (rOf f3),.a,.a,.fr .q [.x 0 (vOf f13)] (rOf f14),.f (rOf f15)]) (.b false (.a))))))))) (.s (.d [.y 67 (vOf f5),.y 68 (vOf f6),.y 69 (vOf f6),.y 102 (vOf f17),.x 8 (vOf f7),.x 1 (vOf f18),.x 0 (vOf f19)] [.a,.fr .q [.x 0 (vOf f13)] (rOf f20),.a,.a,.a,.a,.g false (.a),.g false (.f (rOf f22)),.g false (.a),.g false (.a),.g false (.f (rOf f23)),.g false (.a),.t (rOf (Yb (st:=(St.mk 10 [(1,LObj.box 106 [.ptr 0 0,.int i64 at_,.int i64 t,.own 5 1 (bys w),.bool false]),(0,LObj.box 97 [.int i64 rm,.omap i64 (Zn m) (Yl m),.own 116 2 (Zg p)]),(6,LObj.box 39 [.int i64 rm,.isl 2 (Z1 m),.isl 3 (Z5 p),.int i64 at_,.int i64 t,.isl 1 (bys w),.bool false]),(2,LObj.box 39 [.int i64 rm,.isl 2 (Z1 m),.isl 3 (Z5 p),.int i64 at_,.int i64 t,.isl 1 (bys w),.bool false])])) f24 rfl)),.a,.a,.f (rOf f25),.a,.a,.a,.f (rOf f26),.a,.a,.a,.a,.f (rOf f27),.a,.a,.a,.a] [(true,.a),(true,.a),(true,.g false (.a)),(true,.g false (.a)),(true,.a),(true,.a),(true,.a),(true,.a),(true,.a),(true,.a)] [.a,.v (vOf f33) (.a)]) (.a)))) (.r [.a,.v (vOf f34) (.a)]))) (.h [] (eOf f35) (Zp f35) (rOf f35))) (by kernel_rfl)
theorem zq9_15(a0:Int)(a1:Int)(a2:List Int)(q0:Nat):LObj.box 106 [.ptr 0 0,.int i64 a0,.int i64 a1,.sl 1 q0 0 (List.length (bys a2)) none,.bool true]=LObj.box 106 [.ptr 0 0,.int i64 a0,.int i64 a1,.sl 1 q0 0 (List.length a2) none,.bool true]:=by simp
theorem sd_pO(n fu:Nat)(rm at_:Int)(l:List Act4)(hl:l.length<=60)(i:Int)(hi0:0<=i)(hi:i<(l.length:Int))(c:Int)(b ks:List Int)(hx:(Zf l)[i.toNat]? = some (.agg [.int .i64 0,.isl 1 (bys b),.isl 1 (ints ks),.int .i64 c]))(hn:400<=n)(m m':ML)(p p':PL)(t t':Int)(w w':List Int)(lo:Bool)(hp:p.length<=1000)(hp':p'.length<=1000)(hw:w.length<=100)(hw':w'.length<=100)(hb:b.length<=100)(P:∀ j,Z6 prog C0 (Z3 prog C0 (j+60)) (j+60) 13 [.ptr 0 0,.isl 1 (bys b)] ⟨2,[(0,sO at_ t (vO w) false),(1,dO rm m p)]⟩=some (.nili,⟨2,[(0,sO at_ t' (vO b) true),(1,dO rm m p')]⟩))(R:∀ j,300<j->Z6 prog C0 (Z3 prog C0 (j+300)) (j+300) 12 [sR rm m p at_ t w false,.isl 1 (bys b)] ⟨0,[]⟩=some (.tup [sR rm m p' at_ t' b true,.int .i64 0],⟨0,[]⟩))(M:FM b)(C:FC rm m p')(K:FK m)(r:LX × LEnv × St)(hr:Z2 prog C0 (n+900) 3 0 0 fu (sdE at_ l (i+1)) (sdS rm m p' at_ t' (vO b) b true)=some r):
  Z2 prog C0 (n+900) 3 0 0 (fu+1) (sdE at_ l i) (sdS rm m p at_ t (vO w) w false)=some r:=by
 have f1:decide (i<((Zf l).length:Int))=true:=by simp;omega
 have f2:LV.bool (if decide (i<((Zf l).length:Int))=true then true else false)=LV.bool true:=by simp;omega
 have f3:(Zf l)[i.toNat]? = some (LV.agg [.int i64 0,.isl 1 (bys b),.isl 1 (ints ks),.int i64 c]):=hx;have f4:0<=i/\i<((Zf l).length:Int):=by simp;omega
 have f5:=zq9_1 l;have f6:LV.bool (decide (i<((Zf l).length:Int)))=LV.bool true:=by simp;omega
 have f7:=V3 m;have f8:=V2 rm p 3 4;have f9:=zq9_14 at_ t w 5;have f10:=R (n+599) (by omega)
 have f11:List.length (bys w)=List.length w:=by simp
 have f12:List.length (Zg p)=List.length p:=by simp
 have f13:=zq9_5 rm m p;have f14:=P (n+839);have f15:=of_nil (n+879);have f16:=zq9_15 at_ t' b 7;have f17:=V2 rm p' 8 9;have f18:List.length (bys b)=List.length b:=by simp
 have f19:List.length (Zg p')=List.length p':=by simp
 have f20:=zq9_5 rm m p';have f21:=V7 (n+839) at_ t' b true rm m p';have f22:(!decide (t'=t'))=false:=by simp
 have f23:=Wd (n+839) at_ t' b true rm m p' (by omega)
 have f24:=M (n+879) (by omega)
 have f25:=zq9_7 t';have f26:=C (n+839) (by omega)
 have f27:=K (n+859) (by omega)
 have f28:=Yy (n+889) rm m p';have f29:=zq9_8 t';have f30:=zq9_9 b;have f31:=Wg m;have f32:=zq9_11 p';have f33:=zq9_12 p';have f34:=zq9_13 p';have f35:LV.int i64 (IntKind.wrap i64 (i+1))=LV.int i64 (i+1):=by simp (disch:=omega)
 have f36:=hr;exact dlp (fun h=>ai (congrArg some f1)<|ai (congrArg some f1)<|ai (f2)<|ai (f4)<|ai (f3)<|ai (f5)<|ai (f6)<|ai (f6)<|ai (congrArg some f7)<|ai (congrArg some f8)<|ai (congrArg some f9)<|ai (f4)<|ai (f3)<|ai (f10)<|ai (f4)<|ai (f3)<|ai (f11)<|ai (f12)<|ai (congrArg some f13)<|ai (f14)<|ai (f15)<|ai (f5)<|ai (f6)<|ai (f6)<|ai (congrArg some f7)<|ai (congrArg some f16)<|ai (congrArg some f17)<|ai (f18)<|ai (f19)<|ai (congrArg some f20)<|ai (f21)<|ai (congrArg some f22)<|ai (congrArg some f22)<|ai (f23)<|ai (congrArg some f22)<|ai (congrArg some f22)<|ai (congrArg some f22)<|ai (f24)<|ai (congrArg some f22)<|ai (Yb (st:=(St.mk 10 [(1,LObj.box 106 [.ptr 0 0,.int i64 at_,.int i64 t',.own 5 1 (bys b),.bool true]),(0,LObj.box 97 [.int i64 rm,.omap i64 (Zn m) (Yl m),.own 116 2 (Zg p')]),(6,LObj.box 39 [.int i64 rm,.isl 2 (Z1 m),.isl 3 (Z5 p'),.int i64 at_,.int i64 t',.isl 1 (bys b),.bool true]),(2,LObj.box 39 [.int i64 rm,.isl 2 (Z1 m),.isl 3 (Z5 p'),.int i64 at_,.int i64 t',.isl 1 (bys b),.bool true])])) f25 rfl)<|ai (f26)<|ai (f27)<|ai (f28)<|ai (f29)<|ai (f29)<|ai (congrArg some f22)<|ai (f30)<|ai (congrArg some f22)<|ai (f30)<|ai (f31)<|ai (f31)<|ai (f32)<|ai (f32)<|ai (f33)<|ai (f33)<|ai (f34)<|ai (f35)<|ai (Eq.refl (Z9 f36))<|ai (f36)<|h) (.i (.s (.s (.r [.a,.a,.a,.a,.a,.g true (.a),.g true (.a),.v (vOf f2) (.a)]) (.a)) (.s (.k (.s (.s (.r [.a,.a,.e (rOf f3)]) (.k (.s (.a) (.c (.s (.d [.y 67 (vOf f5),.y 68 (vOf f6),.y 69 (vOf f6),.x 3 (vOf f7),.x 0 (vOf f8),.x 1 (vOf f9)] [.a,.a,.a,.e (rOf f3),.a,.a,.f (rOf f10),.a,.a,.a,.a] [] [.a,.a]) (.s (.a) (.s (.r [.a,.a,.a,.e (rOf f3),.a,.a,.fr .q [.x 0 (vOf f13)] (rOf f14),.f (rOf f15)]) (.a)))))))) (.s (.d [.y 67 (vOf f5),.y 68 (vOf f6),.y 69 (vOf f6),.x 8 (vOf f7),.x 1 (vOf f16),.x 0 (vOf f17)] [.a,.fr .q [.x 0 (vOf f20)] (rOf f21),.a,.a,.a,.a,.g false (.a),.g false (.f (rOf f23)),.g false (.a),.g false (.a),.g false (.f (rOf f24)),.g false (.a),.t (rOf (Yb (st:=(St.mk 10 [(1,LObj.box 106 [.ptr 0 0,.int i64 at_,.int i64 t',.own 5 1 (bys b),.bool true]),(0,LObj.box 97 [.int i64 rm,.omap i64 (Zn m) (Yl m),.own 116 2 (Zg p')]),(6,LObj.box 39 [.int i64 rm,.isl 2 (Z1 m),.isl 3 (Z5 p'),.int i64 at_,.int i64 t',.isl 1 (bys b),.bool true]),(2,LObj.box 39 [.int i64 rm,.isl 2 (Z1 m),.isl 3 (Z5 p'),.int i64 at_,.int i64 t',.isl 1 (bys b),.bool true])])) f25 rfl)),.a,.a,.f (rOf f26),.a,.a,.a,.f (rOf f27),.a,.a,.a,.a,.f (rOf f28),.a,.a,.a,.a] [(true,.a),(true,.a),(true,.g false (.a)),(true,.g false (.a)),(true,.a),(true,.a),(true,.a),(true,.a),(true,.a),(true,.a)] [.a,.v (vOf f34) (.a)]) (.a)))) (.r [.a,.v (vOf f35) (.a)]))) (.h [] (eOf f36) (Zp f36) (rOf f36))) (by kernel_rfl)
theorem zq9_16(a0:Int)(a1:ML):LObj.box 97 [.int i64 a0,.omap i64 (List.map (·.1) (Zq a1)) (List.map (·.2) (Zq a1)),.own 116 2 []]=LObj.box 97 [.int i64 a0,.omap i64 (Zn a1) (Yl a1),.own 116 2 []]:=by simp
theorem sd_sO(n fu:Nat)(rm at_:Int)(l:List Act4)(hl:l.length<=60)(i:Int)(hi0:0<=i)(hi:i<(l.length:Int))(c:Int)(b ks:List Int)(hx:(Zf l)[i.toNat]? = some (.agg [.int .i64 1,.isl 1 (bys b),.isl 1 (ints ks),.int .i64 c]))(hn:400<=n)(m m':ML)(p p':PL)(t t':Int)(w w':List Int)(lo:Bool)(hp:p.length<=1000)(hp':p'.length<=1000)(hw:w.length<=100)(hw':w'.length<=100)(hb:b.length<=100)(P:∀ j,300<j->Z6 prog C0 (Z3 prog C0 (j+60)) (j+60) 14 [.ptr 0 0] ⟨2,[(0,sO at_ t (vO w) lo),(1,dO rm m p)]⟩=some (.tup [],⟨2,[(0,sO at_ t (vO w) false),(1,dO rm m' [])]⟩))(R:∀ j,300<j->Z6 prog C0 (Z3 prog C0 (j+100)) (j+100) 15 [sR rm m p at_ t w lo] ⟨0,[]⟩=some (sR rm m' [] at_ t w false,⟨0,[]⟩))(M:FM w)(C:FC rm m' [])(K:FK m')(r:LX × LEnv × St)(hr:Z2 prog C0 (n+900) 3 0 0 fu (sdE at_ l (i+1)) (sdS rm m' [] at_ t (vO w) w false)=some r):
  Z2 prog C0 (n+900) 3 0 0 (fu+1) (sdE at_ l i) (sdS rm m p at_ t (vO w) w lo)=some r:=by
 have TU:=fun k=>V7 k at_ t w false rm m' []
 have VA:=fun k=>Wd k at_ t w false rm m' [] (by omega)
 have LO:=fun k=>Yy k rm m' []
 have f1:decide (i<((Zf l).length:Int))=true:=by simp;omega
 have f2:LV.bool (if decide (i<((Zf l).length:Int))=true then true else false)=LV.bool true:=by simp;omega
 have f3:(Zf l)[i.toNat]? = some (LV.agg [.int i64 1,.isl 1 (bys b),.isl 1 (ints ks),.int i64 c]):=hx;have f4:0<=i/\i<((Zf l).length:Int):=by simp;omega
 have f5:=P (n+839) (by omega)
 have f6:=R (n+799) (by omega)
 have f7:=zq9_1 l;have f8:LV.bool (decide (i<((Zf l).length:Int)))=LV.bool true:=by simp;omega
 have f9:=V3 m';have f10:=zq9_14 at_ t w 3;have f11:List.length (bys w)=List.length w:=by simp
 have f12:0=0:=by omega
 have f13:=zq9_16 rm m';have f14:=TU (n+839);have f15:(!decide (t=t))=false:=by simp
 have f16:=VA (n+839);have f17:=M (n+879) (by omega)
 have f18:=zq9_7 t;have f19:=C (n+839) (by omega)
 have f20:=K (n+859) (by omega)
 have f21:=LO (n+889);have f22:=zq9_8 t;have f23:=zq9_9 w;have f24:=Wg m';have f25:LV.int i64 (IntKind.wrap i64 (i+1))=LV.int i64 (i+1):=by simp (disch:=omega)
 have f26:=hr;exact dlp (fun h=>ai (congrArg some f1)<|ai (congrArg some f1)<|ai (f2)<|ai (f4)<|ai (f3)<|ai (f5)<|ai (f6)<|ai (f7)<|ai (f8)<|ai (f8)<|ai (congrArg some f9)<|ai (congrArg some f10)<|ai (f11)<|ai (f12)<|ai (congrArg some f13)<|ai (f14)<|ai (congrArg some f15)<|ai (congrArg some f15)<|ai (f16)<|ai (congrArg some f15)<|ai (congrArg some f15)<|ai (congrArg some f15)<|ai (f17)<|ai (congrArg some f15)<|ai (Yb (st:=(St.mk 6 [(1,LObj.box 106 [.ptr 0 0,.int i64 at_,.int i64 t,.own 5 1 (bys w),.bool false]),(0,LObj.box 97 [.int i64 rm,.omap i64 (Zn m') (Yl m'),.own 116 2 []]),(2,LObj.box 39 [.int i64 rm,.isl 2 (Z1 m'),.isl 3 [],.int i64 at_,.int i64 t,.isl 1 (bys w),.bool false])])) f18 rfl)<|ai (f19)<|ai (f20)<|ai (f21)<|ai (f22)<|ai (f22)<|ai (congrArg some f15)<|ai (f23)<|ai (congrArg some f15)<|ai (f23)<|ai (f24)<|ai (f24)<|ai (f25)<|ai (Eq.refl (Z9 f26))<|ai (f26)<|h) (.i (.s (.s (.r [.a,.a,.a,.a,.a,.g true (.a),.g true (.a),.v (vOf f2) (.a)]) (.a)) (.s (.k (.s (.s (.r [.a,.a,.e (rOf f3)]) (.k (.s (.a) (.c (.s (.a) (.c (.s (.r [.a,.f (rOf f5)]) (.r [.a,.f (rOf f6)])))))))) (.s (.d [.y 67 (vOf f7),.y 68 (vOf f8),.y 69 (vOf f8),.x 4 (vOf f9),.x 1 (vOf f10)] [.a,.fr .q [.x 0 (vOf f13)] (rOf f14),.a,.a,.a,.a,.g false (.a),.g false (.f (rOf f16)),.g false (.a),.g false (.a),.g false (.f (rOf f17)),.g false (.a),.t (rOf (Yb (st:=(St.mk 6 [(1,LObj.box 106 [.ptr 0 0,.int i64 at_,.int i64 t,.own 5 1 (bys w),.bool false]),(0,LObj.box 97 [.int i64 rm,.omap i64 (Zn m') (Yl m'),.own 116 2 []]),(2,LObj.box 39 [.int i64 rm,.isl 2 (Z1 m'),.isl 3 [],.int i64 at_,.int i64 t,.isl 1 (bys w),.bool false])])) f18 rfl)),.a,.a,.f (rOf f19),.a,.a,.a,.f (rOf f20),.a,.a,.a,.a,.f (rOf f21),.a,.a,.a,.a] [(true,.a),(true,.a),(true,.g false (.a)),(true,.g false (.a)),(true,.a),(true,.a)] []) (.a)))) (.r [.a,.v (vOf f25) (.a)]))) (.h [] (eOf f26) (Zp f26) (rOf f26))) (by kernel_rfl)
theorem sd_iO(n fu:Nat)(rm at_:Int)(l:List Act4)(hl:l.length<=60)(i:Int)(hi0:0<=i)(hi:i<(l.length:Int))(k c:Int)(b ks:List Int)(hx:(Zf l)[i.toNat]? = some (.agg [.int .i64 k,.isl 1 (bys b),.isl 1 (ints ks),.int .i64 c]))(hn:400<=n)(m m':ML)(p p':PL)(t t':Int)(w w':List Int)(lo:Bool)(hp:p.length<=1000)(hp':p'.length<=1000)(hw:w.length<=100)(hw':w'.length<=100)(hb:b.length<=100)(k0:¬ k=0)(k1:¬ k=1)(k2:¬ k=2)(k3:¬ k=3)(M:FM w)(C:FC rm m p)(K:FK m)(r:LX × LEnv × St)(hr:Z2 prog C0 (n+900) 3 0 0 fu (sdE at_ l (i+1)) (sdS rm m p at_ t (vO w) w lo)=some r):
  Z2 prog C0 (n+900) 3 0 0 (fu+1) (sdE at_ l i) (sdS rm m p at_ t (vO w) w lo)=some r:=by
 have f1:decide (i<((Zf l).length:Int))=true:=by simp;omega
 have f2:LV.bool (if decide (i<((Zf l).length:Int))=true then true else false)=LV.bool true:=by simp;omega
 have f3:(Zf l)[i.toNat]? = some (LV.agg [.int i64 k,.isl 1 (bys b),.isl 1 (ints ks),.int i64 c]):=hx;have f4:0<=i/\i<((Zf l).length:Int):=by simp;omega
 have f5:decide (k=0)=false:=by simp;omega
 have f6:decide (k=1)=false:=by simp;omega
 have f7:decide (k=2)=false:=by simp;omega
 have f8:decide (k=3)=false:=by simp;omega
 have f9:=zq9_1 l;have f10:LV.bool (decide (i<((Zf l).length:Int)))=LV.bool true:=by simp;omega
 have f11:LV.bool (decide (k=0))=LV.bool false:=by simp;omega
 have f12:LV.bool (decide (k=1))=LV.bool false:=by simp;omega
 have f13:LV.bool (decide (k=3))=LV.bool false:=by simp;omega
 have f14:LV.bool (decide (k=2))=LV.bool false:=by simp;omega
 have f15:=V3 m;have f16:=V2 rm p 3 4;have f17:=zq9_4 at_ t w lo 5;have f18:List.length (bys w)=List.length w:=by simp
 have f19:List.length (Zg p)=List.length p:=by simp
 have f20:=zq9_5 rm m p;have f21:=V7 (n+839) at_ t w lo rm m p;have f22:(!decide (t=t))=false:=by simp
 have f23:=Wd (n+839) at_ t w lo rm m p (by omega)
 have f24:=M (n+879) (by omega)
 have f25:=zq9_7 t;have f26:=C (n+839) (by omega)
 have f27:=K (n+859) (by omega)
 have f28:=Yy (n+889) rm m p;have f29:=zq9_8 t;have f30:=zq9_9 w;have f31:=Wg m;have f32:=zq9_11 p;have f33:=zq9_12 p;have f34:=zq9_13 p;have f35:LV.int i64 (IntKind.wrap i64 (i+1))=LV.int i64 (i+1):=by simp (disch:=omega)
 have f36:=hr;exact dlp (fun h=>ai (congrArg some f1)<|ai (congrArg some f1)<|ai (f2)<|ai (f4)<|ai (f3)<|ai (congrArg LV.bool f5)<|ai (congrArg LV.bool f6)<|ai (congrArg LV.bool f7)<|ai (congrArg LV.bool f8)<|ai (f9)<|ai (f10)<|ai (f10)<|ai (f11)<|ai (f11)<|ai (f12)<|ai (f12)<|ai (f13)<|ai (f14)<|ai (f13)<|ai (congrArg some f15)<|ai (congrArg some f16)<|ai (congrArg some f17)<|ai (f18)<|ai (f19)<|ai (congrArg some f20)<|ai (f21)<|ai (congrArg some f22)<|ai (congrArg some f22)<|ai (f23)<|ai (congrArg some f22)<|ai (congrArg some f22)<|ai (congrArg some f22)<|ai (f24)<|ai (congrArg some f22)<|ai (Yb (st:=(St.mk 6 [(1,LObj.box 106 [.ptr 0 0,.int i64 at_,.int i64 t,.own 5 1 (bys w),.bool lo]),(0,LObj.box 97 [.int i64 rm,.omap i64 (Zn m) (Yl m),.own 116 2 (Zg p)]),(2,LObj.box 39 [.int i64 rm,.isl 2 (Z1 m),.isl 3 (Z5 p),.int i64 at_,.int i64 t,.isl 1 (bys w),.bool lo])])) f25 rfl)<|ai (f26)<|ai (f27)<|ai (f28)<|ai (f29)<|ai (f29)<|ai (congrArg some f22)<|ai (f30)<|ai (congrArg some f22)<|ai (f30)<|ai (f31)<|ai (f31)<|ai (f32)<|ai (f32)<|ai (f33)<|ai (f33)<|ai (f34)<|ai (f35)<|ai (Eq.refl (Z9 f36))<|ai (f36)<|h) (.i (.s (.s (.r [.a,.a,.a,.a,.a,.g true (.a),.g true (.a),.v (vOf f2) (.a)]) (.a)) (.s (.k (.s (.s (.r [.a,.a,.e (rOf f3)]) (.k (.s (.a) (.b false (.s (.a) (.b false (.s (.s (.a) (.b false (.a))) (.b false (.a))))))))) (.s (.d [.y 67 (vOf f9),.y 68 (vOf f10),.y 69 (vOf f10),.y 80 (vOf f11),.y 81 (vOf f11),.y 103 (vOf f12),.y 104 (vOf f12),.y 109 (vOf f13),.y 110 (vOf f14),.y 111 (vOf f13),.x 3 (vOf f15),.x 0 (vOf f16),.x 1 (vOf f17)] [.a,.fr .q [.x 0 (vOf f20)] (rOf f21),.a,.a,.a,.a,.g false (.a),.g false (.f (rOf f23)),.g false (.a),.g false (.a),.g false (.f (rOf f24)),.g false (.a),.t (rOf (Yb (st:=(St.mk 6 [(1,LObj.box 106 [.ptr 0 0,.int i64 at_,.int i64 t,.own 5 1 (bys w),.bool lo]),(0,LObj.box 97 [.int i64 rm,.omap i64 (Zn m) (Yl m),.own 116 2 (Zg p)]),(2,LObj.box 39 [.int i64 rm,.isl 2 (Z1 m),.isl 3 (Z5 p),.int i64 at_,.int i64 t,.isl 1 (bys w),.bool lo])])) f25 rfl)),.a,.a,.f (rOf f26),.a,.a,.a,.f (rOf f27),.a,.a,.a,.a,.f (rOf f28),.a,.a,.a,.a] [(true,.a),(true,.a),(true,.g false (.a)),(true,.g false (.a)),(true,.a),(true,.a),(true,.a),(true,.a),(true,.a),(true,.a)] [.a,.v (vOf f34) (.a)]) (.a)))) (.r [.a,.v (vOf f35) (.a)]))) (.h [] (eOf f36) (Zp f36) (rOf f36))) (by kernel_rfl)
theorem sd_oOO(n fu:Nat)(rm at_:Int)(l:List Act4)(hl:l.length<=60)(i:Int)(hi0:0<=i)(hi:i<(l.length:Int))(c:Int)(b ks:List Int)(hx:(Zf l)[i.toNat]? = some (.agg [.int .i64 2,.isl 1 (bys b),.isl 1 (ints ks),.int .i64 c]))(hn:400<=n)(m m':ML)(p p':PL)(t t':Int)(w w':List Int)(lo:Bool)(hp:p.length<=1000)(hp':p'.length<=1000)(hw:w.length<=100)(hw':w'.length<=100)(hb:b.length<=100)(P:FO rm m p at_ t' (vO w'))(R:FR rm m p at_ t' w')(M:FM w')(C:FC rm m p)(K:FK m)(r:LX × LEnv × St)(hr:Z2 prog C0 (n+900) 3 0 0 fu (sdE at_ l (i+1)) (sdS rm m p at_ t' (vO w') w' false)=some r):
  Z2 prog C0 (n+900) 3 0 0 (fu+1) (sdE at_ l i) (sdS rm m p at_ t (vO w) w lo)=some r:=by
 have f1:decide (i<((Zf l).length:Int))=true:=by simp;omega
 have f2:LV.bool (if decide (i<((Zf l).length:Int))=true then true else false)=LV.bool true:=by simp;omega
 have f3:(Zf l)[i.toNat]? = some (LV.agg [.int i64 2,.isl 1 (bys b),.isl 1 (ints ks),.int i64 c]):=hx;have f4:0<=i/\i<((Zf l).length:Int):=by simp;omega
 have f5:=P (n+819) (by omega)
 have f6:=R (n+799) (by omega)
 have f7:=zq9_1 l;have f8:LV.bool (decide (i<((Zf l).length:Int)))=LV.bool true:=by simp;omega
 have f9:=V3 m;have f10:=V2 rm p 5 6;have f11:=zq9_14 at_ t' w' 7;have f12:=zq9_4 at_ t w lo 8;have f13:List.length (bys w')=List.length w':=by simp
 have f14:List.length (Zg p)=List.length p:=by simp
 have f15:=zq9_5 rm m p;have f16:=V7 (n+839) at_ t' w' false rm m p;have f17:(!decide (t'=t'))=false:=by simp
 have f18:=Wd (n+839) at_ t' w' false rm m p (by omega)
 have f19:=M (n+879) (by omega)
 have f20:=zq9_7 t';have f21:=C (n+839) (by omega)
 have f22:=K (n+859) (by omega)
 have f23:=Yy (n+889) rm m p;have f24:=zq9_8 t';have f25:=zq9_9 w';have f26:=Wg m;have f27:=zq9_11 p;have f28:=zq9_12 p;have f29:=zq9_13 p;have f30:LV.int i64 (IntKind.wrap i64 (i+1))=LV.int i64 (i+1):=by simp (disch:=omega)
 have f31:=hr;exact dlp (fun h=>ai (congrArg some f1)<|ai (congrArg some f1)<|ai (f2)<|ai (f4)<|ai (f3)<|ai (f4)<|ai (f3)<|ai (f5)<|ai (f6)<|ai (f7)<|ai (f8)<|ai (f8)<|ai (congrArg some f9)<|ai (congrArg some f10)<|ai (congrArg some f11)<|ai (congrArg some f12)<|ai (f13)<|ai (f14)<|ai (congrArg some f15)<|ai (f16)<|ai (congrArg some f17)<|ai (congrArg some f17)<|ai (f18)<|ai (congrArg some f17)<|ai (congrArg some f17)<|ai (congrArg some f17)<|ai (f19)<|ai (congrArg some f17)<|ai (Yb (st:=(St.mk 9 [(3,LObj.box 106 [.ptr 0 0,.int i64 at_,.int i64 t',.own 5 1 (bys w'),.bool false]),(0,LObj.box 97 [.int i64 rm,.omap i64 (Zn m) (Yl m),.own 116 2 (Zg p)]),(8,LObj.row 5 1 (bys w)),(4,LObj.box 39 [.int i64 rm,.isl 2 (Z1 m),.isl 3 (Z5 p),.int i64 at_,.int i64 t',.isl 1 (bys w'),.bool false]),(1,LObj.box 106 [.ptr 0 0,.int i64 at_,.int i64 t,.sl 1 8 0 (List.length w) none,.bool lo]),(2,LObj.box 39 [.int i64 rm,.isl 2 (Z1 m),.isl 3 (Z5 p),.int i64 at_,.int i64 t',.isl 1 (bys w'),.bool false])])) f20 rfl)<|ai (f21)<|ai (f22)<|ai (f23)<|ai (f24)<|ai (f24)<|ai (congrArg some f17)<|ai (f25)<|ai (congrArg some f17)<|ai (f25)<|ai (f26)<|ai (f26)<|ai (f27)<|ai (f27)<|ai (f28)<|ai (f28)<|ai (f29)<|ai (f30)<|ai (Eq.refl (Z9 f31))<|ai (f31)<|h) (.i (.s (.s (.r [.a,.a,.a,.a,.a,.g true (.a),.g true (.a),.v (vOf f2) (.a)]) (.a)) (.s (.k (.s (.s (.r [.a,.a,.e (rOf f3)]) (.k (.s (.a) (.c (.s (.a) (.c (.s (.a) (.c (.s (.s (.r [.a,.a,.e (rOf f3)]) (.a)) (.s (.r [.a,.a,.f (rOf f5)]) (.s (.r [.a,.a,.a,.f (rOf f6)]) (.a)))))))))))) (.s (.d [.y 67 (vOf f7),.y 68 (vOf f8),.y 69 (vOf f8),.x 5 (vOf f9),.x 0 (vOf f10),.x 3 (vOf f11),.x 1 (vOf f12)] [.a,.fr .q [.x 0 (vOf f15)] (rOf f16),.a,.a,.a,.a,.g false (.a),.g false (.f (rOf f18)),.g false (.a),.g false (.a),.g false (.f (rOf f19)),.g false (.a),.t (rOf (Yb (st:=(St.mk 9 [(3,LObj.box 106 [.ptr 0 0,.int i64 at_,.int i64 t',.own 5 1 (bys w'),.bool false]),(0,LObj.box 97 [.int i64 rm,.omap i64 (Zn m) (Yl m),.own 116 2 (Zg p)]),(8,LObj.row 5 1 (bys w)),(4,LObj.box 39 [.int i64 rm,.isl 2 (Z1 m),.isl 3 (Z5 p),.int i64 at_,.int i64 t',.isl 1 (bys w'),.bool false]),(1,LObj.box 106 [.ptr 0 0,.int i64 at_,.int i64 t,.sl 1 8 0 (List.length w) none,.bool lo]),(2,LObj.box 39 [.int i64 rm,.isl 2 (Z1 m),.isl 3 (Z5 p),.int i64 at_,.int i64 t',.isl 1 (bys w'),.bool false])])) f20 rfl)),.a,.a,.f (rOf f21),.a,.a,.a,.f (rOf f22),.a,.a,.a,.a,.f (rOf f23),.a,.a,.a,.a] [(true,.a),(true,.a),(true,.g false (.a)),(true,.g false (.a)),(true,.a),(true,.a),(true,.a),(true,.a),(true,.a),(true,.a)] [.a,.v (vOf f29) (.a)]) (.a)))) (.r [.a,.v (vOf f30) (.a)]))) (.h [] (eOf f31) (Zp f31) (rOf f31))) (by kernel_rfl)
theorem sd_cOO(n fu:Nat)(rm at_:Int)(l:List Act4)(hl:l.length<=60)(i:Int)(hi0:0<=i)(hi:i<(l.length:Int))(c:Int)(b ks:List Int)(hx:(Zf l)[i.toNat]? = some (.agg [.int .i64 3,.isl 1 (bys b),.isl 1 (ints ks),.int .i64 c]))(hn:400<=n)(m m':ML)(p p':PL)(t t':Int)(w w':List Int)(lo:Bool)(hp:p.length<=1000)(hp':p'.length<=1000)(hw:w.length<=100)(hw':w'.length<=100)(hb:b.length<=100)(Q:∀ j,300<j->Z6 prog C0 (Z3 prog C0 (j+60)) (j+60) 16 [.ptr 0 0,.isl 1 (ints ks),.int .i64 c] ⟨1,[(0,dO rm m p)]⟩=some (.tup [],⟨1,[(0,dO rm m' [])]⟩))(Z:∀ j,300<j->Z6 prog C0 (Z3 prog C0 (j+10)) (j+10) 17 [rR rm m p,.isl 1 (ints ks),.int .i64 c] ⟨0,[]⟩=some (rR rm m' [],⟨0,[]⟩))(P:FO rm m' [] at_ t' (vO w'))(R:FR rm m' [] at_ t' w')(M:FM w')(C:FC rm m' [])(K:FK m')(r:LX × LEnv × St)(hr:Z2 prog C0 (n+900) 3 0 0 fu (sdE at_ l (i+1)) (sdS rm m' [] at_ t' (vO w') w' false)=some r):
  Z2 prog C0 (n+900) 3 0 0 (fu+1) (sdE at_ l i) (sdS rm m p at_ t (vO w) w lo)=some r:=by
 have TU:=fun k=>V7 k at_ t' w' false rm m' []
 have VA:=fun k=>Wd k at_ t' w' false rm m' [] (by omega)
 have LO:=fun k=>Yy k rm m' []
 have f1:decide (i<((Zf l).length:Int))=true:=by simp;omega
 have f2:LV.bool (if decide (i<((Zf l).length:Int))=true then true else false)=LV.bool true:=by simp;omega
 have f3:(Zf l)[i.toNat]? = some (LV.agg [.int i64 3,.isl 1 (bys b),.isl 1 (ints ks),.int i64 c]):=hx;have f4:0<=i/\i<((Zf l).length:Int):=by simp;omega
 have f5:=zq9_1 l;have f6:LV.bool (decide (i<((Zf l).length:Int)))=LV.bool true:=by simp;omega
 have f7:=V3 m;have f8:=V2 rm p 3 4;have f9:=zq9_4 at_ t w lo 5;have f10:List.length (Zg p)=List.length p:=by simp
 have f11:=zq9_5 rm m p;have f12:=Q (n+839) (by omega)
 have f13:=V3 m';have f14:=Z (n+889) (by omega)
 have f15:0=0:=by omega
 have f16:=zq9_16 rm m';have f17:=P (n+819) (by omega)
 have f18:=R (n+799) (by omega)
 have f19:=zq9_14 at_ t' w' 12;have f20:List.length (bys w')=List.length w':=by simp
 have f21:=TU (n+839);have f22:(!decide (t'=t'))=false:=by simp
 have f23:=VA (n+839);have f24:=M (n+879) (by omega)
 have f25:=zq9_7 t';have f26:=C (n+839) (by omega)
 have f27:=K (n+859) (by omega)
 have f28:=LO (n+889);have f29:=zq9_8 t';have f30:=zq9_9 w';have f31:=Wg m';have f32:LV.int i64 (IntKind.wrap i64 (i+1))=LV.int i64 (i+1):=by simp (disch:=omega)
 have f33:=hr;exact dlp (fun h=>ai (congrArg some f1)<|ai (congrArg some f1)<|ai (f2)<|ai (f4)<|ai (f3)<|ai (f4)<|ai (f3)<|ai (f5)<|ai (f6)<|ai (f6)<|ai (congrArg some f7)<|ai (congrArg some f8)<|ai (congrArg some f9)<|ai (f4)<|ai (f3)<|ai (f4)<|ai (f3)<|ai (f10)<|ai (congrArg some f11)<|ai (f12)<|ai (f5)<|ai (f6)<|ai (f6)<|ai (congrArg some f13)<|ai (f4)<|ai (f3)<|ai (f4)<|ai (f3)<|ai (f14)<|ai (f15)<|ai (congrArg some f16)<|ai (f17)<|ai (f18)<|ai (f5)<|ai (f6)<|ai (f6)<|ai (congrArg some f13)<|ai (congrArg some f19)<|ai (f20)<|ai (f15)<|ai (congrArg some f16)<|ai (f21)<|ai (congrArg some f22)<|ai (congrArg some f22)<|ai (f23)<|ai (congrArg some f22)<|ai (congrArg some f22)<|ai (congrArg some f22)<|ai (f24)<|ai (congrArg some f22)<|ai (Yb (st:=(St.mk 13 [(8,LObj.box 106 [.ptr 0 0,.int i64 at_,.int i64 t',.own 5 1 (bys w'),.bool false]),(0,LObj.box 97 [.int i64 rm,.omap i64 (Zn m') (Yl m'),.own 116 2 []]),(9,LObj.box 39 [.int i64 rm,.isl 2 (Z1 m'),.isl 3 [],.int i64 at_,.int i64 t',.isl 1 (bys w'),.bool false]),(5,LObj.row 5 1 (bys w)),(1,LObj.box 106 [.ptr 0 0,.int i64 at_,.int i64 t,.sl 1 5 0 (List.length w) none,.bool lo]),(2,LObj.box 39 [.int i64 rm,.isl 2 (Z1 m'),.isl 3 [],.int i64 at_,.int i64 t',.isl 1 (bys w'),.bool false])])) f25 rfl)<|ai (f26)<|ai (f27)<|ai (f28)<|ai (f29)<|ai (f29)<|ai (congrArg some f22)<|ai (f30)<|ai (congrArg some f22)<|ai (f30)<|ai (f31)<|ai (f31)<|ai (f32)<|ai (Eq.refl (Z9 f33))<|ai (f33)<|h) (.i (.s (.s (.r [.a,.a,.a,.a,.a,.g true (.a),.g true (.a),.v (vOf f2) (.a)]) (.a)) (.s (.k (.s (.s (.r [.a,.a,.e (rOf f3)]) (.k (.s (.a) (.c (.s (.a) (.c (.s (.a) (.c (.s (.s (.r [.a,.a,.e (rOf f3)]) (.c (.s (.d [.y 67 (vOf f5),.y 68 (vOf f6),.y 69 (vOf f6),.x 3 (vOf f7),.x 0 (vOf f8),.x 1 (vOf f9)] [.a,.a,.a,.e (rOf f3),.a,.a,.a,.a,.e (rOf f3),.a,.a] [] [.fr .q [.x 0 (vOf f11)] (rOf f12)]) (.d [.y 67 (vOf f5),.y 68 (vOf f6),.y 69 (vOf f6),.x 6 (vOf f13)] [.a,.a,.a,.a,.e (rOf f3),.a,.a,.a,.a,.e (rOf f3),.a,.a] [] [.f (rOf f14)])))) (.s (.r [.a,.a,.fr .q [.x 0 (vOf f16)] (rOf f17)]) (.s (.r [.a,.a,.a,.f (rOf f18)]) (.a)))))))))))) (.s (.d [.y 67 (vOf f5),.y 68 (vOf f6),.y 69 (vOf f6),.x 10 (vOf f13),.x 8 (vOf f19)] [.a,.fr .q [.x 0 (vOf f16)] (rOf f21),.a,.a,.a,.a,.g false (.a),.g false (.f (rOf f23)),.g false (.a),.g false (.a),.g false (.f (rOf f24)),.g false (.a),.t (rOf (Yb (st:=(St.mk 13 [(8,LObj.box 106 [.ptr 0 0,.int i64 at_,.int i64 t',.own 5 1 (bys w'),.bool false]),(0,LObj.box 97 [.int i64 rm,.omap i64 (Zn m') (Yl m'),.own 116 2 []]),(9,LObj.box 39 [.int i64 rm,.isl 2 (Z1 m'),.isl 3 [],.int i64 at_,.int i64 t',.isl 1 (bys w'),.bool false]),(5,LObj.row 5 1 (bys w)),(1,LObj.box 106 [.ptr 0 0,.int i64 at_,.int i64 t,.sl 1 5 0 (List.length w) none,.bool lo]),(2,LObj.box 39 [.int i64 rm,.isl 2 (Z1 m'),.isl 3 [],.int i64 at_,.int i64 t',.isl 1 (bys w'),.bool false])])) f25 rfl)),.a,.a,.f (rOf f26),.a,.a,.a,.f (rOf f27),.a,.a,.a,.a,.f (rOf f28),.a,.a,.a,.a] [(true,.a),(true,.a),(true,.g false (.a)),(true,.g false (.a)),(true,.a),(true,.a)] []) (.a)))) (.r [.a,.v (vOf f32) (.a)]))) (.h [] (eOf f33) (Zp f33) (rOf f33))) (by kernel_rfl)
theorem sd_oOI(n fu:Nat)(rm at_:Int)(l:List Act4)(hl:l.length<=60)(i:Int)(hi0:0<=i)(hi:i<(l.length:Int))(c:Int)(b ks:List Int)(hx:(Zf l)[i.toNat]? = some (.agg [.int .i64 2,.isl 1 (bys b),.isl 1 (ints ks),.int .i64 c]))(hn:400<=n)(m m':ML)(p p':PL)(t t':Int)(w w':List Int)(lo:Bool)(hp:p.length<=1000)(hp':p'.length<=1000)(hw:w.length<=100)(hw':w'.length<=100)(hb:b.length<=100)(P:FO rm m p at_ t' (vI w'))(R:FR rm m p at_ t' w')(M:FM w')(C:FC rm m p)(K:FK m)(r:LX × LEnv × St)(hr:Z2 prog C0 (n+900) 3 0 0 fu (sdE at_ l (i+1)) (sdS rm m p at_ t' (vI w') w' false)=some r):
  Z2 prog C0 (n+900) 3 0 0 (fu+1) (sdE at_ l i) (sdS rm m p at_ t (vO w) w lo)=some r:=by
 have f1:decide (i<((Zf l).length:Int))=true:=by simp;omega
 have f2:LV.bool (if decide (i<((Zf l).length:Int))=true then true else false)=LV.bool true:=by simp;omega
 have f3:(Zf l)[i.toNat]? = some (LV.agg [.int i64 2,.isl 1 (bys b),.isl 1 (ints ks),.int i64 c]):=hx;have f4:0<=i/\i<((Zf l).length:Int):=by simp;omega
 have f5:=P (n+819) (by omega)
 have f6:=R (n+799) (by omega)
 have f7:=zq9_1 l;have f8:LV.bool (decide (i<((Zf l).length:Int)))=LV.bool true:=by simp;omega
 have f9:=V3 m;have f10:=V2 rm p 5 6;have f11:=zq9_4 at_ t w lo 7;have f12:List.length (Zg p)=List.length p:=by simp
 have f13:=zq9_5 rm m p;have f14:=turn_okI (n+839) at_ t' w' false rm m p;have f15:(!decide (t'=t'))=false:=by simp
 have f16:=value_okI (n+839) at_ t' w' false rm m p (by omega)
 have f17:=M (n+879) (by omega)
 have f18:=zq9_7 t';have f19:=C (n+839) (by omega)
 have f20:=K (n+859) (by omega)
 have f21:=Yy (n+889) rm m p;have f22:=zq9_8 t';have f23:=zq9_9 w';have f24:=Wg m;have f25:=zq9_11 p;have f26:=zq9_12 p;have f27:=zq9_13 p;have f28:LV.int i64 (IntKind.wrap i64 (i+1))=LV.int i64 (i+1):=by simp (disch:=omega)
 have f29:=hr;exact dlp (fun h=>ai (congrArg some f1)<|ai (congrArg some f1)<|ai (f2)<|ai (f4)<|ai (f3)<|ai (f4)<|ai (f3)<|ai (f5)<|ai (f6)<|ai (f7)<|ai (f8)<|ai (f8)<|ai (congrArg some f9)<|ai (congrArg some f10)<|ai (congrArg some f11)<|ai (f12)<|ai (congrArg some f13)<|ai (f14)<|ai (congrArg some f15)<|ai (congrArg some f15)<|ai (f16)<|ai (congrArg some f15)<|ai (congrArg some f15)<|ai (congrArg some f15)<|ai (f17)<|ai (congrArg some f15)<|ai (Yb (st:=(St.mk 8 [(3,LObj.box 106 [.ptr 0 0,.int i64 at_,.int i64 t',.isl 1 (bys w'),.bool false]),(0,LObj.box 97 [.int i64 rm,.omap i64 (Zn m) (Yl m),.own 116 2 (Zg p)]),(7,LObj.row 5 1 (bys w)),(4,LObj.box 39 [.int i64 rm,.isl 2 (Z1 m),.isl 3 (Z5 p),.int i64 at_,.int i64 t',.isl 1 (bys w'),.bool false]),(1,LObj.box 106 [.ptr 0 0,.int i64 at_,.int i64 t,.sl 1 7 0 (List.length w) none,.bool lo]),(2,LObj.box 39 [.int i64 rm,.isl 2 (Z1 m),.isl 3 (Z5 p),.int i64 at_,.int i64 t',.isl 1 (bys w'),.bool false])])) f18 rfl)<|ai (f19)<|ai (f20)<|ai (f21)<|ai (f22)<|ai (f22)<|ai (congrArg some f15)<|ai (f23)<|ai (congrArg some f15)<|ai (f23)<|ai (f24)<|ai (f24)<|ai (f25)<|ai (f25)<|ai (f26)<|ai (f26)<|ai (f27)<|ai (f28)<|ai (Eq.refl (Z9 f29))<|ai (f29)<|h) (.i (.s (.s (.r [.a,.a,.a,.a,.a,.g true (.a),.g true (.a),.v (vOf f2) (.a)]) (.a)) (.s (.k (.s (.s (.r [.a,.a,.e (rOf f3)]) (.k (.s (.a) (.c (.s (.a) (.c (.s (.a) (.c (.s (.s (.r [.a,.a,.e (rOf f3)]) (.a)) (.s (.r [.a,.a,.f (rOf f5)]) (.s (.r [.a,.a,.a,.f (rOf f6)]) (.a)))))))))))) (.s (.d [.y 67 (vOf f7),.y 68 (vOf f8),.y 69 (vOf f8),.x 5 (vOf f9),.x 0 (vOf f10),.x 1 (vOf f11)] [.a,.fr .q [.x 0 (vOf f13)] (rOf f14),.a,.a,.a,.a,.g false (.a),.g false (.f (rOf f16)),.g false (.a),.g false (.a),.g false (.f (rOf f17)),.g false (.a),.t (rOf (Yb (st:=(St.mk 8 [(3,LObj.box 106 [.ptr 0 0,.int i64 at_,.int i64 t',.isl 1 (bys w'),.bool false]),(0,LObj.box 97 [.int i64 rm,.omap i64 (Zn m) (Yl m),.own 116 2 (Zg p)]),(7,LObj.row 5 1 (bys w)),(4,LObj.box 39 [.int i64 rm,.isl 2 (Z1 m),.isl 3 (Z5 p),.int i64 at_,.int i64 t',.isl 1 (bys w'),.bool false]),(1,LObj.box 106 [.ptr 0 0,.int i64 at_,.int i64 t,.sl 1 7 0 (List.length w) none,.bool lo]),(2,LObj.box 39 [.int i64 rm,.isl 2 (Z1 m),.isl 3 (Z5 p),.int i64 at_,.int i64 t',.isl 1 (bys w'),.bool false])])) f18 rfl)),.a,.a,.f (rOf f19),.a,.a,.a,.f (rOf f20),.a,.a,.a,.a,.f (rOf f21),.a,.a,.a,.a] [(true,.a),(true,.a),(true,.g false (.a)),(true,.g false (.a)),(true,.a),(true,.a),(true,.a),(true,.a),(true,.a),(true,.a)] [.a,.v (vOf f27) (.a)]) (.a)))) (.r [.a,.v (vOf f28) (.a)]))) (.h [] (eOf f29) (Zp f29) (rOf f29))) (by kernel_rfl)
theorem sd_cOI(n fu:Nat)(rm at_:Int)(l:List Act4)(hl:l.length<=60)(i:Int)(hi0:0<=i)(hi:i<(l.length:Int))(c:Int)(b ks:List Int)(hx:(Zf l)[i.toNat]? = some (.agg [.int .i64 3,.isl 1 (bys b),.isl 1 (ints ks),.int .i64 c]))(hn:400<=n)(m m':ML)(p p':PL)(t t':Int)(w w':List Int)(lo:Bool)(hp:p.length<=1000)(hp':p'.length<=1000)(hw:w.length<=100)(hw':w'.length<=100)(hb:b.length<=100)(Q:∀ j,300<j->Z6 prog C0 (Z3 prog C0 (j+60)) (j+60) 16 [.ptr 0 0,.isl 1 (ints ks),.int .i64 c] ⟨1,[(0,dO rm m p)]⟩=some (.tup [],⟨1,[(0,dO rm m' [])]⟩))(Z:∀ j,300<j->Z6 prog C0 (Z3 prog C0 (j+10)) (j+10) 17 [rR rm m p,.isl 1 (ints ks),.int .i64 c] ⟨0,[]⟩=some (rR rm m' [],⟨0,[]⟩))(P:FO rm m' [] at_ t' (vI w'))(R:FR rm m' [] at_ t' w')(M:FM w')(C:FC rm m' [])(K:FK m')(r:LX × LEnv × St)(hr:Z2 prog C0 (n+900) 3 0 0 fu (sdE at_ l (i+1)) (sdS rm m' [] at_ t' (vI w') w' false)=some r):
  Z2 prog C0 (n+900) 3 0 0 (fu+1) (sdE at_ l i) (sdS rm m p at_ t (vO w) w lo)=some r:=by
 have TU:=fun k=>turn_okI k at_ t' w' false rm m' []
 have VA:=fun k=>value_okI k at_ t' w' false rm m' [] (by omega)
 have LO:=fun k=>Yy k rm m' []
 have f1:decide (i<((Zf l).length:Int))=true:=by simp;omega
 have f2:LV.bool (if decide (i<((Zf l).length:Int))=true then true else false)=LV.bool true:=by simp;omega
 have f3:(Zf l)[i.toNat]? = some (LV.agg [.int i64 3,.isl 1 (bys b),.isl 1 (ints ks),.int i64 c]):=hx;have f4:0<=i/\i<((Zf l).length:Int):=by simp;omega
 have f5:=zq9_1 l;have f6:LV.bool (decide (i<((Zf l).length:Int)))=LV.bool true:=by simp;omega
 have f7:=V3 m;have f8:=V2 rm p 3 4;have f9:=zq9_4 at_ t w lo 5;have f10:List.length (Zg p)=List.length p:=by simp
 have f11:=zq9_5 rm m p;have f12:=Q (n+839) (by omega)
 have f13:=V3 m';have f14:=Z (n+889) (by omega)
 have f15:0=0:=by omega
 have f16:=zq9_16 rm m';have f17:=P (n+819) (by omega)
 have f18:=R (n+799) (by omega)
 have f19:=TU (n+839);have f20:(!decide (t'=t'))=false:=by simp
 have f21:=VA (n+839);have f22:=M (n+879) (by omega)
 have f23:=zq9_7 t';have f24:=C (n+839) (by omega)
 have f25:=K (n+859) (by omega)
 have f26:=LO (n+889);have f27:=zq9_8 t';have f28:=zq9_9 w';have f29:=Wg m';have f30:LV.int i64 (IntKind.wrap i64 (i+1))=LV.int i64 (i+1):=by simp (disch:=omega)
 have f31:=hr;exact dlp (fun h=>ai (congrArg some f1)<|ai (congrArg some f1)<|ai (f2)<|ai (f4)<|ai (f3)<|ai (f4)<|ai (f3)<|ai (f5)<|ai (f6)<|ai (f6)<|ai (congrArg some f7)<|ai (congrArg some f8)<|ai (congrArg some f9)<|ai (f4)<|ai (f3)<|ai (f4)<|ai (f3)<|ai (f10)<|ai (congrArg some f11)<|ai (f12)<|ai (f5)<|ai (f6)<|ai (f6)<|ai (congrArg some f13)<|ai (f4)<|ai (f3)<|ai (f4)<|ai (f3)<|ai (f14)<|ai (f15)<|ai (congrArg some f16)<|ai (f17)<|ai (f18)<|ai (f5)<|ai (f6)<|ai (f6)<|ai (congrArg some f13)<|ai (f15)<|ai (congrArg some f16)<|ai (f19)<|ai (congrArg some f20)<|ai (congrArg some f20)<|ai (f21)<|ai (congrArg some f20)<|ai (congrArg some f20)<|ai (congrArg some f20)<|ai (f22)<|ai (congrArg some f20)<|ai (Yb (st:=(St.mk 12 [(8,LObj.box 106 [.ptr 0 0,.int i64 at_,.int i64 t',.isl 1 (bys w'),.bool false]),(0,LObj.box 97 [.int i64 rm,.omap i64 (Zn m') (Yl m'),.own 116 2 []]),(9,LObj.box 39 [.int i64 rm,.isl 2 (Z1 m'),.isl 3 [],.int i64 at_,.int i64 t',.isl 1 (bys w'),.bool false]),(5,LObj.row 5 1 (bys w)),(1,LObj.box 106 [.ptr 0 0,.int i64 at_,.int i64 t,.sl 1 5 0 (List.length w) none,.bool lo]),(2,LObj.box 39 [.int i64 rm,.isl 2 (Z1 m'),.isl 3 [],.int i64 at_,.int i64 t',.isl 1 (bys w'),.bool false])])) f23 rfl)<|ai (f24)<|ai (f25)<|ai (f26)<|ai (f27)<|ai (f27)<|ai (congrArg some f20)<|ai (f28)<|ai (congrArg some f20)<|ai (f28)<|ai (f29)<|ai (f29)<|ai (f30)<|ai (Eq.refl (Z9 f31))<|ai (f31)<|h) (.i (.s (.s (.r [.a,.a,.a,.a,.a,.g true (.a),.g true (.a),.v (vOf f2) (.a)]) (.a)) (.s (.k (.s (.s (.r [.a,.a,.e (rOf f3)]) (.k (.s (.a) (.c (.s (.a) (.c (.s (.a) (.c (.s (.s (.r [.a,.a,.e (rOf f3)]) (.c (.s (.d [.y 67 (vOf f5),.y 68 (vOf f6),.y 69 (vOf f6),.x 3 (vOf f7),.x 0 (vOf f8),.x 1 (vOf f9)] [.a,.a,.a,.e (rOf f3),.a,.a,.a,.a,.e (rOf f3),.a,.a] [] [.fr .q [.x 0 (vOf f11)] (rOf f12)]) (.d [.y 67 (vOf f5),.y 68 (vOf f6),.y 69 (vOf f6),.x 6 (vOf f13)] [.a,.a,.a,.a,.e (rOf f3),.a,.a,.a,.a,.e (rOf f3),.a,.a] [] [.f (rOf f14)])))) (.s (.r [.a,.a,.fr .q [.x 0 (vOf f16)] (rOf f17)]) (.s (.r [.a,.a,.a,.f (rOf f18)]) (.a)))))))))))) (.s (.d [.y 67 (vOf f5),.y 68 (vOf f6),.y 69 (vOf f6),.x 10 (vOf f13)] [.a,.fr .q [.x 0 (vOf f16)] (rOf f19),.a,.a,.a,.a,.g false (.a),.g false (.f (rOf f21)),.g false (.a),.g false (.a),.g false (.f (rOf f22)),.g false (.a),.t (rOf (Yb (st:=(St.mk 12 [(8,LObj.box 106 [.ptr 0 0,.int i64 at_,.int i64 t',.isl 1 (bys w'),.bool false]),(0,LObj.box 97 [.int i64 rm,.omap i64 (Zn m') (Yl m'),.own 116 2 []]),(9,LObj.box 39 [.int i64 rm,.isl 2 (Z1 m'),.isl 3 [],.int i64 at_,.int i64 t',.isl 1 (bys w'),.bool false]),(5,LObj.row 5 1 (bys w)),(1,LObj.box 106 [.ptr 0 0,.int i64 at_,.int i64 t,.sl 1 5 0 (List.length w) none,.bool lo]),(2,LObj.box 39 [.int i64 rm,.isl 2 (Z1 m'),.isl 3 [],.int i64 at_,.int i64 t',.isl 1 (bys w'),.bool false])])) f23 rfl)),.a,.a,.f (rOf f24),.a,.a,.a,.f (rOf f25),.a,.a,.a,.a,.f (rOf f26),.a,.a,.a,.a] [(true,.a),(true,.a),(true,.g false (.a)),(true,.g false (.a)),(true,.a),(true,.a)] []) (.a)))) (.r [.a,.v (vOf f30) (.a)]))) (.h [] (eOf f31) (Zp f31) (rOf f31))) (by kernel_rfl)
theorem zq9_18(a0:List Act4):Xf (decide ((a0.length:Int)<((Zf a0).length:Int))) LV.any (LV.bool false)=some (LV.bool false):=by simp
theorem sd_xO(n fu:Nat)(rm at_:Int)(l:List Act4)(hl:l.length<=60)(m:ML)(p:PL)(t:Int)(w:List Int)(lo:Bool):
  Z2 prog C0 (n+900) 3 0 0 (fu+1) (sdE at_ l l.length) (sdS rm m p at_ t (vO w) w lo)=some (.exit 0,sdX at_ l l.length,sdS rm m p at_ t (vO w) w lo):=by
 have f1:decide ((l.length:Int)<((Zf l).length:Int))=false:=by simp
 have f2:=zq9_18 l;exact dlp (fun h=>ai (congrArg some f1)<|ai (congrArg some f1)<|ai (Y3 (st:=(St.mk 3 [(0,LObj.box 97 [.int i64 rm,.omap i64 (Zn m) (Yl m),.own 116 2 (Zg p)]),(1,LObj.box 106 [.ptr 0 0,.int i64 at_,.int i64 t,.own 5 1 (bys w),.bool lo]),(2,LObj.box 39 [.int i64 rm,.isl 2 (Z1 m),.isl 3 (Z5 p),.int i64 at_,.int i64 t,.isl 1 (bys w),.bool lo])])) f2)<|h) (.i (.s (.s (.r [.a,.a,.a,.a,.a,.g false (.a),.g false (.a),.t (rOf (Y3 (st:=(St.mk 3 [(0,LObj.box 97 [.int i64 rm,.omap i64 (Zn m) (Yl m),.own 116 2 (Zg p)]),(1,LObj.box 106 [.ptr 0 0,.int i64 at_,.int i64 t,.own 5 1 (bys w),.bool lo]),(2,LObj.box 39 [.int i64 rm,.isl 2 (Z1 m),.isl 3 (Z5 p),.int i64 at_,.int i64 t,.isl 1 (bys w),.bool lo])])) f2))]) (.a)) .a) (.a)) (by kernel_rfl)
theorem sd_eI(n fu:Nat)(rm at_:Int)(l:List Act4)(hl:l.length<=60)(i:Int)(hi0:0<=i)(hi:i<(l.length:Int))(c:Int)(b ks:List Int)(hx:(Zf l)[i.toNat]? = some (.agg [.int .i64 0,.isl 1 (bys b),.isl 1 (ints ks),.int .i64 c]))(hn:400<=n)(m m':ML)(p p':PL)(t t':Int)(w w':List Int)(lo:Bool)(hp:p.length<=1000)(hp':p'.length<=1000)(hw:w.length<=100)(hw':w'.length<=100)(hb:b.length<=100)(op:List UInt8)(a e:Int)(P:∀ j,Z6 prog C0 (Z3 prog C0 (j+60)) (j+60) 13 [.ptr 0 0,.isl 1 (bys b)] ⟨2,[(0,sO at_ t (vI w) lo),(1,dO rm m p)]⟩=some (flt op a e,⟨2,[(0,sO at_ t (vI w) lo),(1,dO rm m p)]⟩))(R:∀ j,300<j->Z6 prog C0 (Z3 prog C0 (j+300)) (j+300) 12 [sR rm m p at_ t w lo,.isl 1 (bys b)] ⟨0,[]⟩=some (.tup [sR rm m p at_ t w lo,.int .i64 e],⟨0,[]⟩))(M:FM w)(C:FC rm m p)(K:FK m)(r:LX × LEnv × St)(hr:Z2 prog C0 (n+900) 3 0 0 fu (sdE at_ l (i+1)) (sdS rm m p at_ t (vI w) w lo)=some r):
  Z2 prog C0 (n+900) 3 0 0 (fu+1) (sdE at_ l i) (sdS rm m p at_ t (vI w) w lo)=some r:=by
 have f1:decide (i<((Zf l).length:Int))=true:=by simp;omega
 have f2:LV.bool (if decide (i<((Zf l).length:Int))=true then true else false)=LV.bool true:=by simp;omega
 have f3:(Zf l)[i.toNat]? = some (LV.agg [.int i64 0,.isl 1 (bys b),.isl 1 (ints ks),.int i64 c]):=hx;have f4:0<=i/\i<((Zf l).length:Int):=by simp;omega
 have f5:=zq9_1 l;have f6:LV.bool (decide (i<((Zf l).length:Int)))=LV.bool true:=by simp;omega
 have f7:=V3 m;have f8:=V2 rm p 3 4;have f9:=R (n+599) (by omega)
 have f10:List.length (Zg p)=List.length p:=by simp
 have f11:=zq9_5 rm m p;have f12:=P (n+839);have f13:=of_code (n+879) op a e;have f14:(!decide (e=e))=false:=by simp
 have f15:=zq9_6 e;have f16:=V2 rm p 6 7;have f17:=turn_okI (n+839) at_ t w lo rm m p;have f18:(!decide (t=t))=false:=by simp
 have f19:=value_okI (n+839) at_ t w lo rm m p (by omega)
 have f20:=M (n+879) (by omega)
 have f21:=zq9_7 t;have f22:=C (n+839) (by omega)
 have f23:=K (n+859) (by omega)
 have f24:=Yy (n+889) rm m p;have f25:=zq9_8 t;have f26:=zq9_9 w;have f27:=Wg m;have f28:=zq9_11 p;have f29:=zq9_12 p;have f30:=zq9_13 p;have f31:LV.int i64 (IntKind.wrap i64 (i+1))=LV.int i64 (i+1):=by simp (disch:=omega)
 have f32:=hr;exact dlp (fun h=>ai (congrArg some f1)<|ai (congrArg some f1)<|ai (f2)<|ai (f4)<|ai (f3)<|ai (f5)<|ai (f6)<|ai (f6)<|ai (congrArg some f7)<|ai (congrArg some f8)<|ai (f4)<|ai (f3)<|ai (f9)<|ai (f4)<|ai (f3)<|ai (f10)<|ai (congrArg some f11)<|ai (f12)<|ai (f13)<|ai (congrArg LV.bool f14)<|ai (f5)<|ai (f6)<|ai (f6)<|ai (f15)<|ai (congrArg some f7)<|ai (congrArg some f16)<|ai (f10)<|ai (congrArg some f11)<|ai (f17)<|ai (congrArg some f18)<|ai (congrArg some f18)<|ai (f19)<|ai (congrArg some f18)<|ai (congrArg some f18)<|ai (congrArg some f18)<|ai (f20)<|ai (congrArg some f18)<|ai (Yb (st:=(St.mk 8 [(1,LObj.box 106 [.ptr 0 0,.int i64 at_,.int i64 t,.isl 1 (bys w),.bool lo]),(0,LObj.box 97 [.int i64 rm,.omap i64 (Zn m) (Yl m),.own 116 2 (Zg p)]),(5,LObj.box 39 [.int i64 rm,.isl 2 (Z1 m),.isl 3 (Z5 p),.int i64 at_,.int i64 t,.isl 1 (bys w),.bool lo]),(2,LObj.box 39 [.int i64 rm,.isl 2 (Z1 m),.isl 3 (Z5 p),.int i64 at_,.int i64 t,.isl 1 (bys w),.bool lo])])) f21 rfl)<|ai (f22)<|ai (f23)<|ai (f24)<|ai (f25)<|ai (f25)<|ai (congrArg some f18)<|ai (f26)<|ai (congrArg some f18)<|ai (f26)<|ai (f27)<|ai (f27)<|ai (f28)<|ai (f28)<|ai (f29)<|ai (f29)<|ai (f30)<|ai (f31)<|ai (Eq.refl (Z9 f32))<|ai (f32)<|h) (.i (.s (.s (.r [.a,.a,.a,.a,.a,.g true (.a),.g true (.a),.v (vOf f2) (.a)]) (.a)) (.s (.k (.s (.s (.r [.a,.a,.e (rOf f3)]) (.k (.s (.a) (.c (.s (.d [.y 67 (vOf f5),.y 68 (vOf f6),.y 69 (vOf f6),.x 3 (vOf f7),.x 0 (vOf f8)] [.a,.a,.a,.e (rOf f3),.a,.a,.f (rOf f9),.a,.a,.a,.a] [] [.a,.a]) (.s (.a) (.s (.r [.a,.a,.a,.e (rOf f3),.a,.a,.fr .q [.x 0 (vOf f11)] (rOf f12),.f (rOf f13)]) (.b false (.a))))))))) (.s (.d [.y 67 (vOf f5),.y 68 (vOf f6),.y 69 (vOf f6),.y 102 (vOf f15),.x 6 (vOf f7),.x 0 (vOf f16)] [.a,.fr .q [.x 0 (vOf f11)] (rOf f17),.a,.a,.a,.a,.g false (.a),.g false (.f (rOf f19)),.g false (.a),.g false (.a),.g false (.f (rOf f20)),.g false (.a),.t (rOf (Yb (st:=(St.mk 8 [(1,LObj.box 106 [.ptr 0 0,.int i64 at_,.int i64 t,.isl 1 (bys w),.bool lo]),(0,LObj.box 97 [.int i64 rm,.omap i64 (Zn m) (Yl m),.own 116 2 (Zg p)]),(5,LObj.box 39 [.int i64 rm,.isl 2 (Z1 m),.isl 3 (Z5 p),.int i64 at_,.int i64 t,.isl 1 (bys w),.bool lo]),(2,LObj.box 39 [.int i64 rm,.isl 2 (Z1 m),.isl 3 (Z5 p),.int i64 at_,.int i64 t,.isl 1 (bys w),.bool lo])])) f21 rfl)),.a,.a,.f (rOf f22),.a,.a,.a,.f (rOf f23),.a,.a,.a,.a,.f (rOf f24),.a,.a,.a,.a] [(true,.a),(true,.a),(true,.g false (.a)),(true,.g false (.a)),(true,.a),(true,.a),(true,.a),(true,.a),(true,.a),(true,.a)] [.a,.v (vOf f30) (.a)]) (.a)))) (.r [.a,.v (vOf f31) (.a)]))) (.h [] (eOf f32) (Zp f32) (rOf f32))) (by kernel_rfl)
theorem sd_fI(n fu:Nat)(rm at_:Int)(l:List Act4)(hl:l.length<=60)(i:Int)(hi0:0<=i)(hi:i<(l.length:Int))(c:Int)(b ks:List Int)(hx:(Zf l)[i.toNat]? = some (.agg [.int .i64 0,.isl 1 (bys b),.isl 1 (ints ks),.int .i64 c]))(hn:400<=n)(m m':ML)(p p':PL)(t t':Int)(w w':List Int)(lo:Bool)(hp:p.length<=1000)(hp':p'.length<=1000)(hw:w.length<=100)(hw':w'.length<=100)(hb:b.length<=100)(op op2:List UInt8)(a a2 e:Int)(P:∀ j,Z6 prog C0 (Z3 prog C0 (j+60)) (j+60) 13 [.ptr 0 0,.isl 1 (bys b)] ⟨2,[(0,sO at_ t (vI w) false),(1,dO rm m p)]⟩=some (.ifc 155 (.agg [.str op,.int .i64 a,flt op2 a2 e]),⟨2,[(0,sO at_ t (vI w) false),(1,dO rm m p)]⟩))(R:∀ j,300<j->Z6 prog C0 (Z3 prog C0 (j+300)) (j+300) 12 [sR rm m p at_ t w false,.isl 1 (bys b)] ⟨0,[]⟩=some (.tup [sR rm m p at_ t w false,.int .i64 e],⟨0,[]⟩))(M:FM w)(C:FC rm m p)(K:FK m)(r:LX × LEnv × St)(hr:Z2 prog C0 (n+900) 3 0 0 fu (sdE at_ l (i+1)) (sdS rm m p at_ t (vI w) w false)=some r):
  Z2 prog C0 (n+900) 3 0 0 (fu+1) (sdE at_ l i) (sdS rm m p at_ t (vI w) w false)=some r:=by
 have f1:decide (i<((Zf l).length:Int))=true:=by simp;omega
 have f2:LV.bool (if decide (i<((Zf l).length:Int))=true then true else false)=LV.bool true:=by simp;omega
 have f3:(Zf l)[i.toNat]? = some (LV.agg [.int i64 0,.isl 1 (bys b),.isl 1 (ints ks),.int i64 c]):=hx;have f4:0<=i/\i<((Zf l).length:Int):=by simp;omega
 have f5:=zq9_1 l;have f6:LV.bool (decide (i<((Zf l).length:Int)))=LV.bool true:=by simp;omega
 have f7:=V3 m;have f8:=V2 rm p 3 4;have f9:=R (n+599) (by omega)
 have f10:List.length (Zg p)=List.length p:=by simp
 have f11:=zq9_5 rm m p;have f12:=P (n+839);have f13:=of_wrap (n+879) op op2 a a2 e;have f14:(!decide (e=e))=false:=by simp
 have f15:=zq9_6 e;have f16:=V2 rm p 6 7;have f17:=turn_okI (n+839) at_ t w false rm m p;have f18:(!decide (t=t))=false:=by simp
 have f19:=value_okI (n+839) at_ t w false rm m p (by omega)
 have f20:=M (n+879) (by omega)
 have f21:=zq9_7 t;have f22:=C (n+839) (by omega)
 have f23:=K (n+859) (by omega)
 have f24:=Yy (n+889) rm m p;have f25:=zq9_8 t;have f26:=zq9_9 w;have f27:=Wg m;have f28:=zq9_11 p;have f29:=zq9_12 p;have f30:=zq9_13 p;have f31:LV.int i64 (IntKind.wrap i64 (i+1))=LV.int i64 (i+1):=by simp (disch:=omega)
 have f32:=hr;exact dlp (fun h=>ai (congrArg some f1)<|ai (congrArg some f1)<|ai (f2)<|ai (f4)<|ai (f3)<|ai (f5)<|ai (f6)<|ai (f6)<|ai (congrArg some f7)<|ai (congrArg some f8)<|ai (f4)<|ai (f3)<|ai (f9)<|ai (f4)<|ai (f3)<|ai (f10)<|ai (congrArg some f11)<|ai (f12)<|ai (f13)<|ai (congrArg LV.bool f14)<|ai (f5)<|ai (f6)<|ai (f6)<|ai (f15)<|ai (congrArg some f7)<|ai (congrArg some f16)<|ai (f10)<|ai (congrArg some f11)<|ai (f17)<|ai (congrArg some f18)<|ai (congrArg some f18)<|ai (f19)<|ai (congrArg some f18)<|ai (congrArg some f18)<|ai (congrArg some f18)<|ai (f20)<|ai (congrArg some f18)<|ai (Yb (st:=(St.mk 8 [(1,LObj.box 106 [.ptr 0 0,.int i64 at_,.int i64 t,.isl 1 (bys w),.bool false]),(0,LObj.box 97 [.int i64 rm,.omap i64 (Zn m) (Yl m),.own 116 2 (Zg p)]),(5,LObj.box 39 [.int i64 rm,.isl 2 (Z1 m),.isl 3 (Z5 p),.int i64 at_,.int i64 t,.isl 1 (bys w),.bool false]),(2,LObj.box 39 [.int i64 rm,.isl 2 (Z1 m),.isl 3 (Z5 p),.int i64 at_,.int i64 t,.isl 1 (bys w),.bool false])])) f21 rfl)<|ai (f22)<|ai (f23)<|ai (f24)<|ai (f25)<|ai (f25)<|ai (congrArg some f18)<|ai (f26)<|ai (congrArg some f18)<|ai (f26)<|ai (f27)<|ai (f27)<|ai (f28)<|ai (f28)<|ai (f29)<|ai (f29)<|ai (f30)<|ai (f31)<|ai (Eq.refl (Z9 f32))<|ai (f32)<|h) (.i (.s (.s (.r [.a,.a,.a,.a,.a,.g true (.a),.g true (.a),.v (vOf f2) (.a)]) (.a)) (.s (.k (.s (.s (.r [.a,.a,.e (rOf f3)]) (.k (.s (.a) (.c (.s (.d [.y 67 (vOf f5),.y 68 (vOf f6),.y 69 (vOf f6),.x 3 (vOf f7),.x 0 (vOf f8)] [.a,.a,.a,.e (rOf f3),.a,.a,.f (rOf f9),.a,.a,.a,.a] [] [.a,.a]) (.s (.a) (.s (.r [.a,.a,.a,.e (rOf f3),.a,.a,.fr .q [.x 0 (vOf f11)] (rOf f12),.f (rOf f13)]) (.b false (.a))))))))) (.s (.d [.y 67 (vOf f5),.y 68 (vOf f6),.y 69 (vOf f6),.y 102 (vOf f15),.x 6 (vOf f7),.x 0 (vOf f16)] [.a,.fr .q [.x 0 (vOf f11)] (rOf f17),.a,.a,.a,.a,.g false (.a),.g false (.f (rOf f19)),.g false (.a),.g false (.a),.g false (.f (rOf f20)),.g false (.a),.t (rOf (Yb (st:=(St.mk 8 [(1,LObj.box 106 [.ptr 0 0,.int i64 at_,.int i64 t,.isl 1 (bys w),.bool false]),(0,LObj.box 97 [.int i64 rm,.omap i64 (Zn m) (Yl m),.own 116 2 (Zg p)]),(5,LObj.box 39 [.int i64 rm,.isl 2 (Z1 m),.isl 3 (Z5 p),.int i64 at_,.int i64 t,.isl 1 (bys w),.bool false]),(2,LObj.box 39 [.int i64 rm,.isl 2 (Z1 m),.isl 3 (Z5 p),.int i64 at_,.int i64 t,.isl 1 (bys w),.bool false])])) f21 rfl)),.a,.a,.f (rOf f22),.a,.a,.a,.f (rOf f23),.a,.a,.a,.a,.f (rOf f24),.a,.a,.a,.a] [(true,.a),(true,.a),(true,.g false (.a)),(true,.g false (.a)),(true,.a),(true,.a),(true,.a),(true,.a),(true,.a),(true,.a)] [.a,.v (vOf f30) (.a)]) (.a)))) (.r [.a,.v (vOf f31) (.a)]))) (.h [] (eOf f32) (Zp f32) (rOf f32))) (by kernel_rfl)
theorem sd_pI(n fu:Nat)(rm at_:Int)(l:List Act4)(hl:l.length<=60)(i:Int)(hi0:0<=i)(hi:i<(l.length:Int))(c:Int)(b ks:List Int)(hx:(Zf l)[i.toNat]? = some (.agg [.int .i64 0,.isl 1 (bys b),.isl 1 (ints ks),.int .i64 c]))(hn:400<=n)(m m':ML)(p p':PL)(t t':Int)(w w':List Int)(lo:Bool)(hp:p.length<=1000)(hp':p'.length<=1000)(hw:w.length<=100)(hw':w'.length<=100)(hb:b.length<=100)(P:∀ j,Z6 prog C0 (Z3 prog C0 (j+60)) (j+60) 13 [.ptr 0 0,.isl 1 (bys b)] ⟨2,[(0,sO at_ t (vI w) false),(1,dO rm m p)]⟩=some (.nili,⟨2,[(0,sO at_ t' (vO b) true),(1,dO rm m p')]⟩))(R:∀ j,300<j->Z6 prog C0 (Z3 prog C0 (j+300)) (j+300) 12 [sR rm m p at_ t w false,.isl 1 (bys b)] ⟨0,[]⟩=some (.tup [sR rm m p' at_ t' b true,.int .i64 0],⟨0,[]⟩))(M:FM b)(C:FC rm m p')(K:FK m)(r:LX × LEnv × St)(hr:Z2 prog C0 (n+900) 3 0 0 fu (sdE at_ l (i+1)) (sdS rm m p' at_ t' (vO b) b true)=some r):
  Z2 prog C0 (n+900) 3 0 0 (fu+1) (sdE at_ l i) (sdS rm m p at_ t (vI w) w false)=some r:=by
 have f1:decide (i<((Zf l).length:Int))=true:=by simp;omega
 have f2:LV.bool (if decide (i<((Zf l).length:Int))=true then true else false)=LV.bool true:=by simp;omega
 have f3:(Zf l)[i.toNat]? = some (LV.agg [.int i64 0,.isl 1 (bys b),.isl 1 (ints ks),.int i64 c]):=hx;have f4:0<=i/\i<((Zf l).length:Int):=by simp;omega
 have f5:=zq9_1 l;have f6:LV.bool (decide (i<((Zf l).length:Int)))=LV.bool true:=by simp;omega
 have f7:=V3 m;have f8:=V2 rm p 3 4;have f9:=R (n+599) (by omega)
 have f10:List.length (Zg p)=List.length p:=by simp
 have f11:=zq9_5 rm m p;have f12:=P (n+839);have f13:=of_nil (n+879);have f14:=zq9_15 at_ t' b 6;have f15:=V2 rm p' 7 8;have f16:List.length (bys b)=List.length b:=by simp
 have f17:List.length (Zg p')=List.length p':=by simp
 have f18:=zq9_5 rm m p';have f19:=V7 (n+839) at_ t' b true rm m p';have f20:(!decide (t'=t'))=false:=by simp
 have f21:=Wd (n+839) at_ t' b true rm m p' (by omega)
 have f22:=M (n+879) (by omega)
 have f23:=zq9_7 t';have f24:=C (n+839) (by omega)
 have f25:=K (n+859) (by omega)
 have f26:=Yy (n+889) rm m p';have f27:=zq9_8 t';have f28:=zq9_9 b;have f29:=Wg m;have f30:=zq9_11 p';have f31:=zq9_12 p';have f32:=zq9_13 p';have f33:LV.int i64 (IntKind.wrap i64 (i+1))=LV.int i64 (i+1):=by simp (disch:=omega)
 have f34:=hr;exact dlp (fun h=>ai (congrArg some f1)<|ai (congrArg some f1)<|ai (f2)<|ai (f4)<|ai (f3)<|ai (f5)<|ai (f6)<|ai (f6)<|ai (congrArg some f7)<|ai (congrArg some f8)<|ai (f4)<|ai (f3)<|ai (f9)<|ai (f4)<|ai (f3)<|ai (f10)<|ai (congrArg some f11)<|ai (f12)<|ai (f13)<|ai (f5)<|ai (f6)<|ai (f6)<|ai (congrArg some f7)<|ai (congrArg some f14)<|ai (congrArg some f15)<|ai (f16)<|ai (f17)<|ai (congrArg some f18)<|ai (f19)<|ai (congrArg some f20)<|ai (congrArg some f20)<|ai (f21)<|ai (congrArg some f20)<|ai (congrArg some f20)<|ai (congrArg some f20)<|ai (f22)<|ai (congrArg some f20)<|ai (Yb (st:=(St.mk 9 [(1,LObj.box 106 [.ptr 0 0,.int i64 at_,.int i64 t',.own 5 1 (bys b),.bool true]),(0,LObj.box 97 [.int i64 rm,.omap i64 (Zn m) (Yl m),.own 116 2 (Zg p')]),(5,LObj.box 39 [.int i64 rm,.isl 2 (Z1 m),.isl 3 (Z5 p'),.int i64 at_,.int i64 t',.isl 1 (bys b),.bool true]),(2,LObj.box 39 [.int i64 rm,.isl 2 (Z1 m),.isl 3 (Z5 p'),.int i64 at_,.int i64 t',.isl 1 (bys b),.bool true])])) f23 rfl)<|ai (f24)<|ai (f25)<|ai (f26)<|ai (f27)<|ai (f27)<|ai (congrArg some f20)<|ai (f28)<|ai (congrArg some f20)<|ai (f28)<|ai (f29)<|ai (f29)<|ai (f30)<|ai (f30)<|ai (f31)<|ai (f31)<|ai (f32)<|ai (f33)<|ai (Eq.refl (Z9 f34))<|ai (f34)<|h) (.i (.s (.s (.r [.a,.a,.a,.a,.a,.g true (.a),.g true (.a),.v (vOf f2) (.a)]) (.a)) (.s (.k (.s (.s (.r [.a,.a,.e (rOf f3)]) (.k (.s (.a) (.c (.s (.d [.y 67 (vOf f5),.y 68 (vOf f6),.y 69 (vOf f6),.x 3 (vOf f7),.x 0 (vOf f8)] [.a,.a,.a,.e (rOf f3),.a,.a,.f (rOf f9),.a,.a,.a,.a] [] [.a,.a]) (.s (.a) (.s (.r [.a,.a,.a,.e (rOf f3),.a,.a,.fr .q [.x 0 (vOf f11)] (rOf f12),.f (rOf f13)]) (.a)))))))) (.s (.d [.y 67 (vOf f5),.y 68 (vOf f6),.y 69 (vOf f6),.x 7 (vOf f7),.x 1 (vOf f14),.x 0 (vOf f15)] [.a,.fr .q [.x 0 (vOf f18)] (rOf f19),.a,.a,.a,.a,.g false (.a),.g false (.f (rOf f21)),.g false (.a),.g false (.a),.g false (.f (rOf f22)),.g false (.a),.t (rOf (Yb (st:=(St.mk 9 [(1,LObj.box 106 [.ptr 0 0,.int i64 at_,.int i64 t',.own 5 1 (bys b),.bool true]),(0,LObj.box 97 [.int i64 rm,.omap i64 (Zn m) (Yl m),.own 116 2 (Zg p')]),(5,LObj.box 39 [.int i64 rm,.isl 2 (Z1 m),.isl 3 (Z5 p'),.int i64 at_,.int i64 t',.isl 1 (bys b),.bool true]),(2,LObj.box 39 [.int i64 rm,.isl 2 (Z1 m),.isl 3 (Z5 p'),.int i64 at_,.int i64 t',.isl 1 (bys b),.bool true])])) f23 rfl)),.a,.a,.f (rOf f24),.a,.a,.a,.f (rOf f25),.a,.a,.a,.a,.f (rOf f26),.a,.a,.a,.a] [(true,.a),(true,.a),(true,.g false (.a)),(true,.g false (.a)),(true,.a),(true,.a),(true,.a),(true,.a),(true,.a),(true,.a)] [.a,.v (vOf f32) (.a)]) (.a)))) (.r [.a,.v (vOf f33) (.a)]))) (.h [] (eOf f34) (Zp f34) (rOf f34))) (by kernel_rfl)
theorem sd_sI(n fu:Nat)(rm at_:Int)(l:List Act4)(hl:l.length<=60)(i:Int)(hi0:0<=i)(hi:i<(l.length:Int))(c:Int)(b ks:List Int)(hx:(Zf l)[i.toNat]? = some (.agg [.int .i64 1,.isl 1 (bys b),.isl 1 (ints ks),.int .i64 c]))(hn:400<=n)(m m':ML)(p p':PL)(t t':Int)(w w':List Int)(lo:Bool)(hp:p.length<=1000)(hp':p'.length<=1000)(hw:w.length<=100)(hw':w'.length<=100)(hb:b.length<=100)(P:∀ j,300<j->Z6 prog C0 (Z3 prog C0 (j+60)) (j+60) 14 [.ptr 0 0] ⟨2,[(0,sO at_ t (vI w) lo),(1,dO rm m p)]⟩=some (.tup [],⟨2,[(0,sO at_ t (vI w) false),(1,dO rm m' [])]⟩))(R:∀ j,300<j->Z6 prog C0 (Z3 prog C0 (j+100)) (j+100) 15 [sR rm m p at_ t w lo] ⟨0,[]⟩=some (sR rm m' [] at_ t w false,⟨0,[]⟩))(M:FM w)(C:FC rm m' [])(K:FK m')(r:LX × LEnv × St)(hr:Z2 prog C0 (n+900) 3 0 0 fu (sdE at_ l (i+1)) (sdS rm m' [] at_ t (vI w) w false)=some r):
  Z2 prog C0 (n+900) 3 0 0 (fu+1) (sdE at_ l i) (sdS rm m p at_ t (vI w) w lo)=some r:=by
 have TU:=fun k=>turn_okI k at_ t w false rm m' []
 have VA:=fun k=>value_okI k at_ t w false rm m' [] (by omega)
 have LO:=fun k=>Yy k rm m' []
 have f1:decide (i<((Zf l).length:Int))=true:=by simp;omega
 have f2:LV.bool (if decide (i<((Zf l).length:Int))=true then true else false)=LV.bool true:=by simp;omega
 have f3:(Zf l)[i.toNat]? = some (LV.agg [.int i64 1,.isl 1 (bys b),.isl 1 (ints ks),.int i64 c]):=hx;have f4:0<=i/\i<((Zf l).length:Int):=by simp;omega
 have f5:=P (n+839) (by omega)
 have f6:=R (n+799) (by omega)
 have f7:=zq9_1 l;have f8:LV.bool (decide (i<((Zf l).length:Int)))=LV.bool true:=by simp;omega
 have f9:=V3 m';have f10:0=0:=by omega
 have f11:=zq9_16 rm m';have f12:=TU (n+839);have f13:(!decide (t=t))=false:=by simp
 have f14:=VA (n+839);have f15:=M (n+879) (by omega)
 have f16:=zq9_7 t;have f17:=C (n+839) (by omega)
 have f18:=K (n+859) (by omega)
 have f19:=LO (n+889);have f20:=zq9_8 t;have f21:=zq9_9 w;have f22:=Wg m';have f23:LV.int i64 (IntKind.wrap i64 (i+1))=LV.int i64 (i+1):=by simp (disch:=omega)
 have f24:=hr;exact dlp (fun h=>ai (congrArg some f1)<|ai (congrArg some f1)<|ai (f2)<|ai (f4)<|ai (f3)<|ai (f5)<|ai (f6)<|ai (f7)<|ai (f8)<|ai (f8)<|ai (congrArg some f9)<|ai (f10)<|ai (congrArg some f11)<|ai (f12)<|ai (congrArg some f13)<|ai (congrArg some f13)<|ai (f14)<|ai (congrArg some f13)<|ai (congrArg some f13)<|ai (congrArg some f13)<|ai (f15)<|ai (congrArg some f13)<|ai (Yb (st:=(St.mk 5 [(1,LObj.box 106 [.ptr 0 0,.int i64 at_,.int i64 t,.isl 1 (bys w),.bool false]),(0,LObj.box 97 [.int i64 rm,.omap i64 (Zn m') (Yl m'),.own 116 2 []]),(2,LObj.box 39 [.int i64 rm,.isl 2 (Z1 m'),.isl 3 [],.int i64 at_,.int i64 t,.isl 1 (bys w),.bool false])])) f16 rfl)<|ai (f17)<|ai (f18)<|ai (f19)<|ai (f20)<|ai (f20)<|ai (congrArg some f13)<|ai (f21)<|ai (congrArg some f13)<|ai (f21)<|ai (f22)<|ai (f22)<|ai (f23)<|ai (Eq.refl (Z9 f24))<|ai (f24)<|h) (.i (.s (.s (.r [.a,.a,.a,.a,.a,.g true (.a),.g true (.a),.v (vOf f2) (.a)]) (.a)) (.s (.k (.s (.s (.r [.a,.a,.e (rOf f3)]) (.k (.s (.a) (.c (.s (.a) (.c (.s (.r [.a,.f (rOf f5)]) (.r [.a,.f (rOf f6)])))))))) (.s (.d [.y 67 (vOf f7),.y 68 (vOf f8),.y 69 (vOf f8),.x 3 (vOf f9)] [.a,.fr .q [.x 0 (vOf f11)] (rOf f12),.a,.a,.a,.a,.g false (.a),.g false (.f (rOf f14)),.g false (.a),.g false (.a),.g false (.f (rOf f15)),.g false (.a),.t (rOf (Yb (st:=(St.mk 5 [(1,LObj.box 106 [.ptr 0 0,.int i64 at_,.int i64 t,.isl 1 (bys w),.bool false]),(0,LObj.box 97 [.int i64 rm,.omap i64 (Zn m') (Yl m'),.own 116 2 []]),(2,LObj.box 39 [.int i64 rm,.isl 2 (Z1 m'),.isl 3 [],.int i64 at_,.int i64 t,.isl 1 (bys w),.bool false])])) f16 rfl)),.a,.a,.f (rOf f17),.a,.a,.a,.f (rOf f18),.a,.a,.a,.a,.f (rOf f19),.a,.a,.a,.a] [(true,.a),(true,.a),(true,.g false (.a)),(true,.g false (.a)),(true,.a),(true,.a)] []) (.a)))) (.r [.a,.v (vOf f23) (.a)]))) (.h [] (eOf f24) (Zp f24) (rOf f24))) (by kernel_rfl)
theorem sd_iI(n fu:Nat)(rm at_:Int)(l:List Act4)(hl:l.length<=60)(i:Int)(hi0:0<=i)(hi:i<(l.length:Int))(k c:Int)(b ks:List Int)(hx:(Zf l)[i.toNat]? = some (.agg [.int .i64 k,.isl 1 (bys b),.isl 1 (ints ks),.int .i64 c]))(hn:400<=n)(m m':ML)(p p':PL)(t t':Int)(w w':List Int)(lo:Bool)(hp:p.length<=1000)(hp':p'.length<=1000)(hw:w.length<=100)(hw':w'.length<=100)(hb:b.length<=100)(k0:¬ k=0)(k1:¬ k=1)(k2:¬ k=2)(k3:¬ k=3)(M:FM w)(C:FC rm m p)(K:FK m)(r:LX × LEnv × St)(hr:Z2 prog C0 (n+900) 3 0 0 fu (sdE at_ l (i+1)) (sdS rm m p at_ t (vI w) w lo)=some r):
  Z2 prog C0 (n+900) 3 0 0 (fu+1) (sdE at_ l i) (sdS rm m p at_ t (vI w) w lo)=some r:=by
 have f1:decide (i<((Zf l).length:Int))=true:=by simp;omega
 have f2:LV.bool (if decide (i<((Zf l).length:Int))=true then true else false)=LV.bool true:=by simp;omega
 have f3:(Zf l)[i.toNat]? = some (LV.agg [.int i64 k,.isl 1 (bys b),.isl 1 (ints ks),.int i64 c]):=hx;have f4:0<=i/\i<((Zf l).length:Int):=by simp;omega
 have f5:decide (k=0)=false:=by simp;omega
 have f6:decide (k=1)=false:=by simp;omega
 have f7:decide (k=2)=false:=by simp;omega
 have f8:decide (k=3)=false:=by simp;omega
 have f9:=zq9_1 l;have f10:LV.bool (decide (i<((Zf l).length:Int)))=LV.bool true:=by simp;omega
 have f11:LV.bool (decide (k=0))=LV.bool false:=by simp;omega
 have f12:LV.bool (decide (k=1))=LV.bool false:=by simp;omega
 have f13:LV.bool (decide (k=3))=LV.bool false:=by simp;omega
 have f14:LV.bool (decide (k=2))=LV.bool false:=by simp;omega
 have f15:=V3 m;have f16:=V2 rm p 3 4;have f17:List.length (Zg p)=List.length p:=by simp
 have f18:=zq9_5 rm m p;have f19:=turn_okI (n+839) at_ t w lo rm m p;have f20:(!decide (t=t))=false:=by simp
 have f21:=value_okI (n+839) at_ t w lo rm m p (by omega)
 have f22:=M (n+879) (by omega)
 have f23:=zq9_7 t;have f24:=C (n+839) (by omega)
 have f25:=K (n+859) (by omega)
 have f26:=Yy (n+889) rm m p;have f27:=zq9_8 t;have f28:=zq9_9 w;have f29:=Wg m;have f30:=zq9_11 p;have f31:=zq9_12 p;have f32:=zq9_13 p;have f33:LV.int i64 (IntKind.wrap i64 (i+1))=LV.int i64 (i+1):=by simp (disch:=omega)
 have f34:=hr;exact dlp (fun h=>ai (congrArg some f1)<|ai (congrArg some f1)<|ai (f2)<|ai (f4)<|ai (f3)<|ai (congrArg LV.bool f5)<|ai (congrArg LV.bool f6)<|ai (congrArg LV.bool f7)<|ai (congrArg LV.bool f8)<|ai (f9)<|ai (f10)<|ai (f10)<|ai (f11)<|ai (f11)<|ai (f12)<|ai (f12)<|ai (f13)<|ai (f14)<|ai (f13)<|ai (congrArg some f15)<|ai (congrArg some f16)<|ai (f17)<|ai (congrArg some f18)<|ai (f19)<|ai (congrArg some f20)<|ai (congrArg some f20)<|ai (f21)<|ai (congrArg some f20)<|ai (congrArg some f20)<|ai (congrArg some f20)<|ai (f22)<|ai (congrArg some f20)<|ai (Yb (st:=(St.mk 5 [(1,LObj.box 106 [.ptr 0 0,.int i64 at_,.int i64 t,.isl 1 (bys w),.bool lo]),(0,LObj.box 97 [.int i64 rm,.omap i64 (Zn m) (Yl m),.own 116 2 (Zg p)]),(2,LObj.box 39 [.int i64 rm,.isl 2 (Z1 m),.isl 3 (Z5 p),.int i64 at_,.int i64 t,.isl 1 (bys w),.bool lo])])) f23 rfl)<|ai (f24)<|ai (f25)<|ai (f26)<|ai (f27)<|ai (f27)<|ai (congrArg some f20)<|ai (f28)<|ai (congrArg some f20)<|ai (f28)<|ai (f29)<|ai (f29)<|ai (f30)<|ai (f30)<|ai (f31)<|ai (f31)<|ai (f32)<|ai (f33)<|ai (Eq.refl (Z9 f34))<|ai (f34)<|h) (.i (.s (.s (.r [.a,.a,.a,.a,.a,.g true (.a),.g true (.a),.v (vOf f2) (.a)]) (.a)) (.s (.k (.s (.s (.r [.a,.a,.e (rOf f3)]) (.k (.s (.a) (.b false (.s (.a) (.b false (.s (.s (.a) (.b false (.a))) (.b false (.a))))))))) (.s (.d [.y 67 (vOf f9),.y 68 (vOf f10),.y 69 (vOf f10),.y 80 (vOf f11),.y 81 (vOf f11),.y 103 (vOf f12),.y 104 (vOf f12),.y 109 (vOf f13),.y 110 (vOf f14),.y 111 (vOf f13),.x 3 (vOf f15),.x 0 (vOf f16)] [.a,.fr .q [.x 0 (vOf f18)] (rOf f19),.a,.a,.a,.a,.g false (.a),.g false (.f (rOf f21)),.g false (.a),.g false (.a),.g false (.f (rOf f22)),.g false (.a),.t (rOf (Yb (st:=(St.mk 5 [(1,LObj.box 106 [.ptr 0 0,.int i64 at_,.int i64 t,.isl 1 (bys w),.bool lo]),(0,LObj.box 97 [.int i64 rm,.omap i64 (Zn m) (Yl m),.own 116 2 (Zg p)]),(2,LObj.box 39 [.int i64 rm,.isl 2 (Z1 m),.isl 3 (Z5 p),.int i64 at_,.int i64 t,.isl 1 (bys w),.bool lo])])) f23 rfl)),.a,.a,.f (rOf f24),.a,.a,.a,.f (rOf f25),.a,.a,.a,.a,.f (rOf f26),.a,.a,.a,.a] [(true,.a),(true,.a),(true,.g false (.a)),(true,.g false (.a)),(true,.a),(true,.a),(true,.a),(true,.a),(true,.a),(true,.a)] [.a,.v (vOf f32) (.a)]) (.a)))) (.r [.a,.v (vOf f33) (.a)]))) (.h [] (eOf f34) (Zp f34) (rOf f34))) (by kernel_rfl)
theorem sd_oIO(n fu:Nat)(rm at_:Int)(l:List Act4)(hl:l.length<=60)(i:Int)(hi0:0<=i)(hi:i<(l.length:Int))(c:Int)(b ks:List Int)(hx:(Zf l)[i.toNat]? = some (.agg [.int .i64 2,.isl 1 (bys b),.isl 1 (ints ks),.int .i64 c]))(hn:400<=n)(m m':ML)(p p':PL)(t t':Int)(w w':List Int)(lo:Bool)(hp:p.length<=1000)(hp':p'.length<=1000)(hw:w.length<=100)(hw':w'.length<=100)(hb:b.length<=100)(P:FO rm m p at_ t' (vO w'))(R:FR rm m p at_ t' w')(M:FM w')(C:FC rm m p)(K:FK m)(r:LX × LEnv × St)(hr:Z2 prog C0 (n+900) 3 0 0 fu (sdE at_ l (i+1)) (sdS rm m p at_ t' (vO w') w' false)=some r):
  Z2 prog C0 (n+900) 3 0 0 (fu+1) (sdE at_ l i) (sdS rm m p at_ t (vI w) w lo)=some r:=by
 have f1:decide (i<((Zf l).length:Int))=true:=by simp;omega
 have f2:LV.bool (if decide (i<((Zf l).length:Int))=true then true else false)=LV.bool true:=by simp;omega
 have f3:(Zf l)[i.toNat]? = some (LV.agg [.int i64 2,.isl 1 (bys b),.isl 1 (ints ks),.int i64 c]):=hx;have f4:0<=i/\i<((Zf l).length:Int):=by simp;omega
 have f5:=P (n+819) (by omega)
 have f6:=R (n+799) (by omega)
 have f7:=zq9_1 l;have f8:LV.bool (decide (i<((Zf l).length:Int)))=LV.bool true:=by simp;omega
 have f9:=V3 m;have f10:=V2 rm p 5 6;have f11:=zq9_14 at_ t' w' 7;have f12:List.length (bys w')=List.length w':=by simp
 have f13:List.length (Zg p)=List.length p:=by simp
 have f14:=zq9_5 rm m p;have f15:=V7 (n+839) at_ t' w' false rm m p;have f16:(!decide (t'=t'))=false:=by simp
 have f17:=Wd (n+839) at_ t' w' false rm m p (by omega)
 have f18:=M (n+879) (by omega)
 have f19:=zq9_7 t';have f20:=C (n+839) (by omega)
 have f21:=K (n+859) (by omega)
 have f22:=Yy (n+889) rm m p;have f23:=zq9_8 t';have f24:=zq9_9 w';have f25:=Wg m;have f26:=zq9_11 p;have f27:=zq9_12 p;have f28:=zq9_13 p;have f29:LV.int i64 (IntKind.wrap i64 (i+1))=LV.int i64 (i+1):=by simp (disch:=omega)
 have f30:=hr;exact dlp (fun h=>ai (congrArg some f1)<|ai (congrArg some f1)<|ai (f2)<|ai (f4)<|ai (f3)<|ai (f4)<|ai (f3)<|ai (f5)<|ai (f6)<|ai (f7)<|ai (f8)<|ai (f8)<|ai (congrArg some f9)<|ai (congrArg some f10)<|ai (congrArg some f11)<|ai (f12)<|ai (f13)<|ai (congrArg some f14)<|ai (f15)<|ai (congrArg some f16)<|ai (congrArg some f16)<|ai (f17)<|ai (congrArg some f16)<|ai (congrArg some f16)<|ai (congrArg some f16)<|ai (f18)<|ai (congrArg some f16)<|ai (Yb (st:=(St.mk 8 [(3,LObj.box 106 [.ptr 0 0,.int i64 at_,.int i64 t',.own 5 1 (bys w'),.bool false]),(0,LObj.box 97 [.int i64 rm,.omap i64 (Zn m) (Yl m),.own 116 2 (Zg p)]),(4,LObj.box 39 [.int i64 rm,.isl 2 (Z1 m),.isl 3 (Z5 p),.int i64 at_,.int i64 t',.isl 1 (bys w'),.bool false]),(1,LObj.box 106 [.ptr 0 0,.int i64 at_,.int i64 t,.isl 1 (bys w),.bool lo]),(2,LObj.box 39 [.int i64 rm,.isl 2 (Z1 m),.isl 3 (Z5 p),.int i64 at_,.int i64 t',.isl 1 (bys w'),.bool false])])) f19 rfl)<|ai (f20)<|ai (f21)<|ai (f22)<|ai (f23)<|ai (f23)<|ai (congrArg some f16)<|ai (f24)<|ai (congrArg some f16)<|ai (f24)<|ai (f25)<|ai (f25)<|ai (f26)<|ai (f26)<|ai (f27)<|ai (f27)<|ai (f28)<|ai (f29)<|ai (Eq.refl (Z9 f30))<|ai (f30)<|h) (.i (.s (.s (.r [.a,.a,.a,.a,.a,.g true (.a),.g true (.a),.v (vOf f2) (.a)]) (.a)) (.s (.k (.s (.s (.r [.a,.a,.e (rOf f3)]) (.k (.s (.a) (.c (.s (.a) (.c (.s (.a) (.c (.s (.s (.r [.a,.a,.e (rOf f3)]) (.a)) (.s (.r [.a,.a,.f (rOf f5)]) (.s (.r [.a,.a,.a,.f (rOf f6)]) (.a)))))))))))) (.s (.d [.y 67 (vOf f7),.y 68 (vOf f8),.y 69 (vOf f8),.x 5 (vOf f9),.x 0 (vOf f10),.x 3 (vOf f11)] [.a,.fr .q [.x 0 (vOf f14)] (rOf f15),.a,.a,.a,.a,.g false (.a),.g false (.f (rOf f17)),.g false (.a),.g false (.a),.g false (.f (rOf f18)),.g false (.a),.t (rOf (Yb (st:=(St.mk 8 [(3,LObj.box 106 [.ptr 0 0,.int i64 at_,.int i64 t',.own 5 1 (bys w'),.bool false]),(0,LObj.box 97 [.int i64 rm,.omap i64 (Zn m) (Yl m),.own 116 2 (Zg p)]),(4,LObj.box 39 [.int i64 rm,.isl 2 (Z1 m),.isl 3 (Z5 p),.int i64 at_,.int i64 t',.isl 1 (bys w'),.bool false]),(1,LObj.box 106 [.ptr 0 0,.int i64 at_,.int i64 t,.isl 1 (bys w),.bool lo]),(2,LObj.box 39 [.int i64 rm,.isl 2 (Z1 m),.isl 3 (Z5 p),.int i64 at_,.int i64 t',.isl 1 (bys w'),.bool false])])) f19 rfl)),.a,.a,.f (rOf f20),.a,.a,.a,.f (rOf f21),.a,.a,.a,.a,.f (rOf f22),.a,.a,.a,.a] [(true,.a),(true,.a),(true,.g false (.a)),(true,.g false (.a)),(true,.a),(true,.a),(true,.a),(true,.a),(true,.a),(true,.a)] [.a,.v (vOf f28) (.a)]) (.a)))) (.r [.a,.v (vOf f29) (.a)]))) (.h [] (eOf f30) (Zp f30) (rOf f30))) (by kernel_rfl)
theorem sd_cIO(n fu:Nat)(rm at_:Int)(l:List Act4)(hl:l.length<=60)(i:Int)(hi0:0<=i)(hi:i<(l.length:Int))(c:Int)(b ks:List Int)(hx:(Zf l)[i.toNat]? = some (.agg [.int .i64 3,.isl 1 (bys b),.isl 1 (ints ks),.int .i64 c]))(hn:400<=n)(m m':ML)(p p':PL)(t t':Int)(w w':List Int)(lo:Bool)(hp:p.length<=1000)(hp':p'.length<=1000)(hw:w.length<=100)(hw':w'.length<=100)(hb:b.length<=100)(Q:∀ j,300<j->Z6 prog C0 (Z3 prog C0 (j+60)) (j+60) 16 [.ptr 0 0,.isl 1 (ints ks),.int .i64 c] ⟨1,[(0,dO rm m p)]⟩=some (.tup [],⟨1,[(0,dO rm m' [])]⟩))(Z:∀ j,300<j->Z6 prog C0 (Z3 prog C0 (j+10)) (j+10) 17 [rR rm m p,.isl 1 (ints ks),.int .i64 c] ⟨0,[]⟩=some (rR rm m' [],⟨0,[]⟩))(P:FO rm m' [] at_ t' (vO w'))(R:FR rm m' [] at_ t' w')(M:FM w')(C:FC rm m' [])(K:FK m')(r:LX × LEnv × St)(hr:Z2 prog C0 (n+900) 3 0 0 fu (sdE at_ l (i+1)) (sdS rm m' [] at_ t' (vO w') w' false)=some r):
  Z2 prog C0 (n+900) 3 0 0 (fu+1) (sdE at_ l i) (sdS rm m p at_ t (vI w) w lo)=some r:=by
 have TU:=fun k=>V7 k at_ t' w' false rm m' []
 have VA:=fun k=>Wd k at_ t' w' false rm m' [] (by omega)
 have LO:=fun k=>Yy k rm m' []
 have f1:decide (i<((Zf l).length:Int))=true:=by simp;omega
 have f2:LV.bool (if decide (i<((Zf l).length:Int))=true then true else false)=LV.bool true:=by simp;omega
 have f3:(Zf l)[i.toNat]? = some (LV.agg [.int i64 3,.isl 1 (bys b),.isl 1 (ints ks),.int i64 c]):=hx;have f4:0<=i/\i<((Zf l).length:Int):=by simp;omega
 have f5:=zq9_1 l;have f6:LV.bool (decide (i<((Zf l).length:Int)))=LV.bool true:=by simp;omega
 have f7:=V3 m;have f8:=V2 rm p 3 4;have f9:List.length (Zg p)=List.length p:=by simp
 have f10:=zq9_5 rm m p;have f11:=Q (n+839) (by omega)
 have f12:=V3 m';have f13:=Z (n+889) (by omega)
 have f14:0=0:=by omega
 have f15:=zq9_16 rm m';have f16:=P (n+819) (by omega)
 have f17:=R (n+799) (by omega)
 have f18:=zq9_14 at_ t' w' 11;have f19:List.length (bys w')=List.length w':=by simp
 have f20:=TU (n+839);have f21:(!decide (t'=t'))=false:=by simp
 have f22:=VA (n+839);have f23:=M (n+879) (by omega)
 have f24:=zq9_7 t';have f25:=C (n+839) (by omega)
 have f26:=K (n+859) (by omega)
 have f27:=LO (n+889);have f28:=zq9_8 t';have f29:=zq9_9 w';have f30:=Wg m';have f31:LV.int i64 (IntKind.wrap i64 (i+1))=LV.int i64 (i+1):=by simp (disch:=omega)
 have f32:=hr;exact dlp (fun h=>ai (congrArg some f1)<|ai (congrArg some f1)<|ai (f2)<|ai (f4)<|ai (f3)<|ai (f4)<|ai (f3)<|ai (f5)<|ai (f6)<|ai (f6)<|ai (congrArg some f7)<|ai (congrArg some f8)<|ai (f4)<|ai (f3)<|ai (f4)<|ai (f3)<|ai (f9)<|ai (congrArg some f10)<|ai (f11)<|ai (f5)<|ai (f6)<|ai (f6)<|ai (congrArg some f12)<|ai (f4)<|ai (f3)<|ai (f4)<|ai (f3)<|ai (f13)<|ai (f14)<|ai (congrArg some f15)<|ai (f16)<|ai (f17)<|ai (f5)<|ai (f6)<|ai (f6)<|ai (congrArg some f12)<|ai (congrArg some f18)<|ai (f19)<|ai (f14)<|ai (congrArg some f15)<|ai (f20)<|ai (congrArg some f21)<|ai (congrArg some f21)<|ai (f22)<|ai (congrArg some f21)<|ai (congrArg some f21)<|ai (congrArg some f21)<|ai (f23)<|ai (congrArg some f21)<|ai (Yb (st:=(St.mk 12 [(7,LObj.box 106 [.ptr 0 0,.int i64 at_,.int i64 t',.own 5 1 (bys w'),.bool false]),(0,LObj.box 97 [.int i64 rm,.omap i64 (Zn m') (Yl m'),.own 116 2 []]),(8,LObj.box 39 [.int i64 rm,.isl 2 (Z1 m'),.isl 3 [],.int i64 at_,.int i64 t',.isl 1 (bys w'),.bool false]),(1,LObj.box 106 [.ptr 0 0,.int i64 at_,.int i64 t,.isl 1 (bys w),.bool lo]),(2,LObj.box 39 [.int i64 rm,.isl 2 (Z1 m'),.isl 3 [],.int i64 at_,.int i64 t',.isl 1 (bys w'),.bool false])])) f24 rfl)<|ai (f25)<|ai (f26)<|ai (f27)<|ai (f28)<|ai (f28)<|ai (congrArg some f21)<|ai (f29)<|ai (congrArg some f21)<|ai (f29)<|ai (f30)<|ai (f30)<|ai (f31)<|ai (Eq.refl (Z9 f32))<|ai (f32)<|h) (.i (.s (.s (.r [.a,.a,.a,.a,.a,.g true (.a),.g true (.a),.v (vOf f2) (.a)]) (.a)) (.s (.k (.s (.s (.r [.a,.a,.e (rOf f3)]) (.k (.s (.a) (.c (.s (.a) (.c (.s (.a) (.c (.s (.s (.r [.a,.a,.e (rOf f3)]) (.c (.s (.d [.y 67 (vOf f5),.y 68 (vOf f6),.y 69 (vOf f6),.x 3 (vOf f7),.x 0 (vOf f8)] [.a,.a,.a,.e (rOf f3),.a,.a,.a,.a,.e (rOf f3),.a,.a] [] [.fr .q [.x 0 (vOf f10)] (rOf f11)]) (.d [.y 67 (vOf f5),.y 68 (vOf f6),.y 69 (vOf f6),.x 5 (vOf f12)] [.a,.a,.a,.a,.e (rOf f3),.a,.a,.a,.a,.e (rOf f3),.a,.a] [] [.f (rOf f13)])))) (.s (.r [.a,.a,.fr .q [.x 0 (vOf f15)] (rOf f16)]) (.s (.r [.a,.a,.a,.f (rOf f17)]) (.a)))))))))))) (.s (.d [.y 67 (vOf f5),.y 68 (vOf f6),.y 69 (vOf f6),.x 9 (vOf f12),.x 7 (vOf f18)] [.a,.fr .q [.x 0 (vOf f15)] (rOf f20),.a,.a,.a,.a,.g false (.a),.g false (.f (rOf f22)),.g false (.a),.g false (.a),.g false (.f (rOf f23)),.g false (.a),.t (rOf (Yb (st:=(St.mk 12 [(7,LObj.box 106 [.ptr 0 0,.int i64 at_,.int i64 t',.own 5 1 (bys w'),.bool false]),(0,LObj.box 97 [.int i64 rm,.omap i64 (Zn m') (Yl m'),.own 116 2 []]),(8,LObj.box 39 [.int i64 rm,.isl 2 (Z1 m'),.isl 3 [],.int i64 at_,.int i64 t',.isl 1 (bys w'),.bool false]),(1,LObj.box 106 [.ptr 0 0,.int i64 at_,.int i64 t,.isl 1 (bys w),.bool lo]),(2,LObj.box 39 [.int i64 rm,.isl 2 (Z1 m'),.isl 3 [],.int i64 at_,.int i64 t',.isl 1 (bys w'),.bool false])])) f24 rfl)),.a,.a,.f (rOf f25),.a,.a,.a,.f (rOf f26),.a,.a,.a,.a,.f (rOf f27),.a,.a,.a,.a] [(true,.a),(true,.a),(true,.g false (.a)),(true,.g false (.a)),(true,.a),(true,.a)] []) (.a)))) (.r [.a,.v (vOf f31) (.a)]))) (.h [] (eOf f32) (Zp f32) (rOf f32))) (by kernel_rfl)
theorem sd_oII(n fu:Nat)(rm at_:Int)(l:List Act4)(hl:l.length<=60)(i:Int)(hi0:0<=i)(hi:i<(l.length:Int))(c:Int)(b ks:List Int)(hx:(Zf l)[i.toNat]? = some (.agg [.int .i64 2,.isl 1 (bys b),.isl 1 (ints ks),.int .i64 c]))(hn:400<=n)(m m':ML)(p p':PL)(t t':Int)(w w':List Int)(lo:Bool)(hp:p.length<=1000)(hp':p'.length<=1000)(hw:w.length<=100)(hw':w'.length<=100)(hb:b.length<=100)(P:FO rm m p at_ t' (vI w'))(R:FR rm m p at_ t' w')(M:FM w')(C:FC rm m p)(K:FK m)(r:LX × LEnv × St)(hr:Z2 prog C0 (n+900) 3 0 0 fu (sdE at_ l (i+1)) (sdS rm m p at_ t' (vI w') w' false)=some r):
  Z2 prog C0 (n+900) 3 0 0 (fu+1) (sdE at_ l i) (sdS rm m p at_ t (vI w) w lo)=some r:=by
 have f1:decide (i<((Zf l).length:Int))=true:=by simp;omega
 have f2:LV.bool (if decide (i<((Zf l).length:Int))=true then true else false)=LV.bool true:=by simp;omega
 have f3:(Zf l)[i.toNat]? = some (LV.agg [.int i64 2,.isl 1 (bys b),.isl 1 (ints ks),.int i64 c]):=hx;have f4:0<=i/\i<((Zf l).length:Int):=by simp;omega
 have f5:=P (n+819) (by omega)
 have f6:=R (n+799) (by omega)
 have f7:=zq9_1 l;have f8:LV.bool (decide (i<((Zf l).length:Int)))=LV.bool true:=by simp;omega
 have f9:=V3 m;have f10:=V2 rm p 5 6;have f11:List.length (Zg p)=List.length p:=by simp
 have f12:=zq9_5 rm m p;have f13:=turn_okI (n+839) at_ t' w' false rm m p;have f14:(!decide (t'=t'))=false:=by simp
 have f15:=value_okI (n+839) at_ t' w' false rm m p (by omega)
 have f16:=M (n+879) (by omega)
 have f17:=zq9_7 t';have f18:=C (n+839) (by omega)
 have f19:=K (n+859) (by omega)
 have f20:=Yy (n+889) rm m p;have f21:=zq9_8 t';have f22:=zq9_9 w';have f23:=Wg m;have f24:=zq9_11 p;have f25:=zq9_12 p;have f26:=zq9_13 p;have f27:LV.int i64 (IntKind.wrap i64 (i+1))=LV.int i64 (i+1):=by simp (disch:=omega)
 have f28:=hr;exact dlp (fun h=>ai (congrArg some f1)<|ai (congrArg some f1)<|ai (f2)<|ai (f4)<|ai (f3)<|ai (f4)<|ai (f3)<|ai (f5)<|ai (f6)<|ai (f7)<|ai (f8)<|ai (f8)<|ai (congrArg some f9)<|ai (congrArg some f10)<|ai (f11)<|ai (congrArg some f12)<|ai (f13)<|ai (congrArg some f14)<|ai (congrArg some f14)<|ai (f15)<|ai (congrArg some f14)<|ai (congrArg some f14)<|ai (congrArg some f14)<|ai (f16)<|ai (congrArg some f14)<|ai (Yb (st:=(St.mk 7 [(3,LObj.box 106 [.ptr 0 0,.int i64 at_,.int i64 t',.isl 1 (bys w'),.bool false]),(0,LObj.box 97 [.int i64 rm,.omap i64 (Zn m) (Yl m),.own 116 2 (Zg p)]),(4,LObj.box 39 [.int i64 rm,.isl 2 (Z1 m),.isl 3 (Z5 p),.int i64 at_,.int i64 t',.isl 1 (bys w'),.bool false]),(1,LObj.box 106 [.ptr 0 0,.int i64 at_,.int i64 t,.isl 1 (bys w),.bool lo]),(2,LObj.box 39 [.int i64 rm,.isl 2 (Z1 m),.isl 3 (Z5 p),.int i64 at_,.int i64 t',.isl 1 (bys w'),.bool false])])) f17 rfl)<|ai (f18)<|ai (f19)<|ai (f20)<|ai (f21)<|ai (f21)<|ai (congrArg some f14)<|ai (f22)<|ai (congrArg some f14)<|ai (f22)<|ai (f23)<|ai (f23)<|ai (f24)<|ai (f24)<|ai (f25)<|ai (f25)<|ai (f26)<|ai (f27)<|ai (Eq.refl (Z9 f28))<|ai (f28)<|h) (.i (.s (.s (.r [.a,.a,.a,.a,.a,.g true (.a),.g true (.a),.v (vOf f2) (.a)]) (.a)) (.s (.k (.s (.s (.r [.a,.a,.e (rOf f3)]) (.k (.s (.a) (.c (.s (.a) (.c (.s (.a) (.c (.s (.s (.r [.a,.a,.e (rOf f3)]) (.a)) (.s (.r [.a,.a,.f (rOf f5)]) (.s (.r [.a,.a,.a,.f (rOf f6)]) (.a)))))))))))) (.s (.d [.y 67 (vOf f7),.y 68 (vOf f8),.y 69 (vOf f8),.x 5 (vOf f9),.x 0 (vOf f10)] [.a,.fr .q [.x 0 (vOf f12)] (rOf f13),.a,.a,.a,.a,.g false (.a),.g false (.f (rOf f15)),.g false (.a),.g false (.a),.g false (.f (rOf f16)),.g false (.a),.t (rOf (Yb (st:=(St.mk 7 [(3,LObj.box 106 [.ptr 0 0,.int i64 at_,.int i64 t',.isl 1 (bys w'),.bool false]),(0,LObj.box 97 [.int i64 rm,.omap i64 (Zn m) (Yl m),.own 116 2 (Zg p)]),(4,LObj.box 39 [.int i64 rm,.isl 2 (Z1 m),.isl 3 (Z5 p),.int i64 at_,.int i64 t',.isl 1 (bys w'),.bool false]),(1,LObj.box 106 [.ptr 0 0,.int i64 at_,.int i64 t,.isl 1 (bys w),.bool lo]),(2,LObj.box 39 [.int i64 rm,.isl 2 (Z1 m),.isl 3 (Z5 p),.int i64 at_,.int i64 t',.isl 1 (bys w'),.bool false])])) f17 rfl)),.a,.a,.f (rOf f18),.a,.a,.a,.f (rOf f19),.a,.a,.a,.a,.f (rOf f20),.a,.a,.a,.a] [(true,.a),(true,.a),(true,.g false (.a)),(true,.g false (.a)),(true,.a),(true,.a),(true,.a),(true,.a),(true,.a),(true,.a)] [.a,.v (vOf f26) (.a)]) (.a)))) (.r [.a,.v (vOf f27) (.a)]))) (.h [] (eOf f28) (Zp f28) (rOf f28))) (by kernel_rfl)
theorem sd_cII(n fu:Nat)(rm at_:Int)(l:List Act4)(hl:l.length<=60)(i:Int)(hi0:0<=i)(hi:i<(l.length:Int))(c:Int)(b ks:List Int)(hx:(Zf l)[i.toNat]? = some (.agg [.int .i64 3,.isl 1 (bys b),.isl 1 (ints ks),.int .i64 c]))(hn:400<=n)(m m':ML)(p p':PL)(t t':Int)(w w':List Int)(lo:Bool)(hp:p.length<=1000)(hp':p'.length<=1000)(hw:w.length<=100)(hw':w'.length<=100)(hb:b.length<=100)(Q:∀ j,300<j->Z6 prog C0 (Z3 prog C0 (j+60)) (j+60) 16 [.ptr 0 0,.isl 1 (ints ks),.int .i64 c] ⟨1,[(0,dO rm m p)]⟩=some (.tup [],⟨1,[(0,dO rm m' [])]⟩))(Z:∀ j,300<j->Z6 prog C0 (Z3 prog C0 (j+10)) (j+10) 17 [rR rm m p,.isl 1 (ints ks),.int .i64 c] ⟨0,[]⟩=some (rR rm m' [],⟨0,[]⟩))(P:FO rm m' [] at_ t' (vI w'))(R:FR rm m' [] at_ t' w')(M:FM w')(C:FC rm m' [])(K:FK m')(r:LX × LEnv × St)(hr:Z2 prog C0 (n+900) 3 0 0 fu (sdE at_ l (i+1)) (sdS rm m' [] at_ t' (vI w') w' false)=some r):
  Z2 prog C0 (n+900) 3 0 0 (fu+1) (sdE at_ l i) (sdS rm m p at_ t (vI w) w lo)=some r:=by
 have TU:=fun k=>turn_okI k at_ t' w' false rm m' []
 have VA:=fun k=>value_okI k at_ t' w' false rm m' [] (by omega)
 have LO:=fun k=>Yy k rm m' []
 have f1:decide (i<((Zf l).length:Int))=true:=by simp;omega
 have f2:LV.bool (if decide (i<((Zf l).length:Int))=true then true else false)=LV.bool true:=by simp;omega
 have f3:(Zf l)[i.toNat]? = some (LV.agg [.int i64 3,.isl 1 (bys b),.isl 1 (ints ks),.int i64 c]):=hx;have f4:0<=i/\i<((Zf l).length:Int):=by simp;omega
 have f5:=zq9_1 l;have f6:LV.bool (decide (i<((Zf l).length:Int)))=LV.bool true:=by simp;omega
 have f7:=V3 m;have f8:=V2 rm p 3 4;have f9:List.length (Zg p)=List.length p:=by simp
 have f10:=zq9_5 rm m p;have f11:=Q (n+839) (by omega)
 have f12:=V3 m';have f13:=Z (n+889) (by omega)
 have f14:0=0:=by omega
 have f15:=zq9_16 rm m';have f16:=P (n+819) (by omega)
 have f17:=R (n+799) (by omega)
 have f18:=TU (n+839);have f19:(!decide (t'=t'))=false:=by simp
 have f20:=VA (n+839);have f21:=M (n+879) (by omega)
 have f22:=zq9_7 t';have f23:=C (n+839) (by omega)
 have f24:=K (n+859) (by omega)
 have f25:=LO (n+889);have f26:=zq9_8 t';have f27:=zq9_9 w';have f28:=Wg m';have f29:LV.int i64 (IntKind.wrap i64 (i+1))=LV.int i64 (i+1):=by simp (disch:=omega)
 have f30:=hr;exact dlp (fun h=>ai (congrArg some f1)<|ai (congrArg some f1)<|ai (f2)<|ai (f4)<|ai (f3)<|ai (f4)<|ai (f3)<|ai (f5)<|ai (f6)<|ai (f6)<|ai (congrArg some f7)<|ai (congrArg some f8)<|ai (f4)<|ai (f3)<|ai (f4)<|ai (f3)<|ai (f9)<|ai (congrArg some f10)<|ai (f11)<|ai (f5)<|ai (f6)<|ai (f6)<|ai (congrArg some f12)<|ai (f4)<|ai (f3)<|ai (f4)<|ai (f3)<|ai (f13)<|ai (f14)<|ai (congrArg some f15)<|ai (f16)<|ai (f17)<|ai (f5)<|ai (f6)<|ai (f6)<|ai (congrArg some f12)<|ai (f14)<|ai (congrArg some f15)<|ai (f18)<|ai (congrArg some f19)<|ai (congrArg some f19)<|ai (f20)<|ai (congrArg some f19)<|ai (congrArg some f19)<|ai (congrArg some f19)<|ai (f21)<|ai (congrArg some f19)<|ai (Yb (st:=(St.mk 11 [(7,LObj.box 106 [.ptr 0 0,.int i64 at_,.int i64 t',.isl 1 (bys w'),.bool false]),(0,LObj.box 97 [.int i64 rm,.omap i64 (Zn m') (Yl m'),.own 116 2 []]),(8,LObj.box 39 [.int i64 rm,.isl 2 (Z1 m'),.isl 3 [],.int i64 at_,.int i64 t',.isl 1 (bys w'),.bool false]),(1,LObj.box 106 [.ptr 0 0,.int i64 at_,.int i64 t,.isl 1 (bys w),.bool lo]),(2,LObj.box 39 [.int i64 rm,.isl 2 (Z1 m'),.isl 3 [],.int i64 at_,.int i64 t',.isl 1 (bys w'),.bool false])])) f22 rfl)<|ai (f23)<|ai (f24)<|ai (f25)<|ai (f26)<|ai (f26)<|ai (congrArg some f19)<|ai (f27)<|ai (congrArg some f19)<|ai (f27)<|ai (f28)<|ai (f28)<|ai (f29)<|ai (Eq.refl (Z9 f30))<|ai (f30)<|h) (.i (.s (.s (.r [.a,.a,.a,.a,.a,.g true (.a),.g true (.a),.v (vOf f2) (.a)]) (.a)) (.s (.k (.s (.s (.r [.a,.a,.e (rOf f3)]) (.k (.s (.a) (.c (.s (.a) (.c (.s (.a) (.c (.s (.s (.r [.a,.a,.e (rOf f3)]) (.c (.s (.d [.y 67 (vOf f5),.y 68 (vOf f6),.y 69 (vOf f6),.x 3 (vOf f7),.x 0 (vOf f8)] [.a,.a,.a,.e (rOf f3),.a,.a,.a,.a,.e (rOf f3),.a,.a] [] [.fr .q [.x 0 (vOf f10)] (rOf f11)]) (.d [.y 67 (vOf f5),.y 68 (vOf f6),.y 69 (vOf f6),.x 5 (vOf f12)] [.a,.a,.a,.a,.e (rOf f3),.a,.a,.a,.a,.e (rOf f3),.a,.a] [] [.f (rOf f13)])))) (.s (.r [.a,.a,.fr .q [.x 0 (vOf f15)] (rOf f16)]) (.s (.r [.a,.a,.a,.f (rOf f17)]) (.a)))))))))))) (.s (.d [.y 67 (vOf f5),.y 68 (vOf f6),.y 69 (vOf f6),.x 9 (vOf f12)] [.a,.fr .q [.x 0 (vOf f15)] (rOf f18),.a,.a,.a,.a,.g false (.a),.g false (.f (rOf f20)),.g false (.a),.g false (.a),.g false (.f (rOf f21)),.g false (.a),.t (rOf (Yb (st:=(St.mk 11 [(7,LObj.box 106 [.ptr 0 0,.int i64 at_,.int i64 t',.isl 1 (bys w'),.bool false]),(0,LObj.box 97 [.int i64 rm,.omap i64 (Zn m') (Yl m'),.own 116 2 []]),(8,LObj.box 39 [.int i64 rm,.isl 2 (Z1 m'),.isl 3 [],.int i64 at_,.int i64 t',.isl 1 (bys w'),.bool false]),(1,LObj.box 106 [.ptr 0 0,.int i64 at_,.int i64 t,.isl 1 (bys w),.bool lo]),(2,LObj.box 39 [.int i64 rm,.isl 2 (Z1 m'),.isl 3 [],.int i64 at_,.int i64 t',.isl 1 (bys w'),.bool false])])) f22 rfl)),.a,.a,.f (rOf f23),.a,.a,.a,.f (rOf f24),.a,.a,.a,.a,.f (rOf f25),.a,.a,.a,.a] [(true,.a),(true,.a),(true,.g false (.a)),(true,.g false (.a)),(true,.a),(true,.a)] []) (.a)))) (.r [.a,.v (vOf f29) (.a)]))) (.h [] (eOf f30) (Zp f30) (rOf f30))) (by kernel_rfl)
theorem sd_xI(n fu:Nat)(rm at_:Int)(l:List Act4)(hl:l.length<=60)(m:ML)(p:PL)(t:Int)(w:List Int)(lo:Bool):
  Z2 prog C0 (n+900) 3 0 0 (fu+1) (sdE at_ l l.length) (sdS rm m p at_ t (vI w) w lo)=some (.exit 0,sdX at_ l l.length,sdS rm m p at_ t (vI w) w lo):=by
 have f1:decide ((l.length:Int)<((Zf l).length:Int))=false:=by simp
 have f2:=zq9_18 l;exact dlp (fun h=>ai (congrArg some f1)<|ai (congrArg some f1)<|ai (Y3 (st:=(St.mk 3 [(0,LObj.box 97 [.int i64 rm,.omap i64 (Zn m) (Yl m),.own 116 2 (Zg p)]),(1,LObj.box 106 [.ptr 0 0,.int i64 at_,.int i64 t,.isl 1 (bys w),.bool lo]),(2,LObj.box 39 [.int i64 rm,.isl 2 (Z1 m),.isl 3 (Z5 p),.int i64 at_,.int i64 t,.isl 1 (bys w),.bool lo])])) f2)<|h) (.i (.s (.s (.r [.a,.a,.a,.a,.a,.g false (.a),.g false (.a),.t (rOf (Y3 (st:=(St.mk 3 [(0,LObj.box 97 [.int i64 rm,.omap i64 (Zn m) (Yl m),.own 116 2 (Zg p)]),(1,LObj.box 106 [.ptr 0 0,.int i64 at_,.int i64 t,.isl 1 (bys w),.bool lo]),(2,LObj.box 39 [.int i64 rm,.isl 2 (Z1 m),.isl 3 (Z5 p),.int i64 at_,.int i64 t,.isl 1 (bys w),.bool lo])])) f2))]) (.a)) .a) (.a)) (by kernel_rfl)
theorem so_bad(n:Nat)(rm:Int)(m:ML)(p:PL)(hp:p.length<=1000000)(ho:okP p)(at_:Int)(h:at_<0∨1073741824<at_)(h2:-9223372036854775808<=at_)(h3:at_<=1099511627776):
  Z6 prog C0 (Z3 prog C0 (n+80)) (n+80) 9 [.ptr 0 0,.int .i64 at_] ⟨1,[(0,dO rm m p)]⟩=some (.tup [.nilp,.ifc 155 (.agg [.str [115,108,111,116],.int .i64 0,flt [98,108,111,99,107] at_ 2])],⟨1,[(0,dO rm m p)]⟩):=by
 have B:=fun k=>dread_bad k at_ rm m p h hp ho
 have f1:LV.int i64 (IntKind.wrap i64 (at_+0))=LV.int i64 at_:=by simp (disch:=omega)
 have f2:=B (n+79);exact drn (fun h=>ai (f1)<|ai (f2)<|h) (.s (.a) (.s (.a) (.s (.a) (.s (.s (.a) (.k (.l (.i (.s (.a) (.s (.a) (.s (.k (.s (.a) (.s (.r [.a,.a,.a,.v (vOf f1) (.a),.f (rOf f2)]) (.a)))) .a))) (.a))))) .a)))) [] .a (by kernel_rfl)
theorem sd_tO(n:Nat)(rm at_:Int)(l:List Act4)(hl:Xi l=true)(hl2:l.length<=60)(h0:0<=rm)(h1:rm<=255)(a0:0<=at_)(a1:at_<=1073741823)(hn:400<=n)(m:ML)(p:PL)(t:Int)(w:List Int)(lo:Bool)(SO:∀ j,Z6 prog C0 (Z3 prog C0 (j+80)) (j+80) 9 [.ptr 0 0,.int .i64 at_] ⟨1,[(0,dO rm [] [])]⟩=some (.tup [.ptr 1 0,.nili],⟨2,[(0,dO rm [] []),(1,slB at_ 0 (vO []) false)]⟩))(RO:∀ j,300<j->Z6 prog C0 (Z3 prog C0 (j+100)) (j+100) 10 [rNil rm,.int .i64 at_] ⟨0,[]⟩=some (.tup [sR rm [] [] at_ 0 [] false,.int .i64 0],⟨0,[]⟩))(L:Z2 prog C0 (n+900) 3 0 0 (n+900) (sdE at_ l 0) (sdS rm [] [] at_ 0 (vO []) [] false)=some (.exit 0,sdX at_ l l.length,sdS rm m p at_ t (vO w) w lo))(hw:Z6 prog C0 (Z3 prog C0 (n+899)) (n+899) 7 [] ⟨0,[]⟩=some (.bool true,⟨0,[]⟩)):
  Z6 prog C0 (Z3 prog C0 (n+900)) (n+900) 3 [.int .u8 rm,.int .i64 at_,.isl 4 (Zf l)] ⟨0,[]⟩=some (.bool true,⟨0,[]⟩):=by
 have f1:=light_any (n+879) l (by omega)
 have f2:(!Xi l)=false:=by simp;omega
 have f3:LV.bool (if (!Xi l)=true then true else decide (1099511627776<at_))=LV.bool false:=by simp [-List.reduceReplicate,hl,hl2,h0,h1,a0,a1,hn,L,hw];omega
 have f4:LV.int i64 (IntKind.wrap i64 rm)=LV.int i64 rm:=by simp (disch:=omega)
 have f5:=new_ok (n+889) rm h0 (by omega)
 have f6:=SO (n+819);have f7:=RO (n+799) (by omega)
 have f8:=of_nil (n+879);have f9:=L
 have f10:=hw;exact drn (fun h=>ai (f1)<|ai (congrArg some f2)<|ai (congrArg some f2)<|ai (f3)<|ai (f4)<|ai (f5)<|ai (f6)<|ai (f4)<|ai (f7)<|ai (f8)<|ai (Eq.refl (Z9 f9))<|ai (f9)<|ai (f10)<|h) (.s (.a) (.s (.s (.r [.a,.f (rOf f1),.a,.a,.g false (.a),.g false (.a),.v (vOf f3) (.a)]) (.a)) (.s (.r [.a,.v (vOf f4) (.a),.f (rOf f5)]) (.s (.a) (.s (.r [.a,.a,.f (rOf f6)]) (.s (.r [.a,.v (vOf f4) (.a),.a,.a,.f (rOf f7)]) (.s (.s (.r [.a,.f (rOf f8)]) (.a)) (.s (.s (.a) (.k (.l (.h [] (eOf f9) (Zp f9) (rOf f9))))) (.s (.r [.f (rOf f10)]) (.a)))))))))) [] .a (by kernel_rfl)
theorem sd_tI(n:Nat)(rm at_:Int)(l:List Act4)(hl:Xi l=true)(hl2:l.length<=60)(h0:0<=rm)(h1:rm<=255)(a0:0<=at_)(a1:at_<=1073741823)(hn:400<=n)(m:ML)(p:PL)(t:Int)(w:List Int)(lo:Bool)(SO:∀ j,Z6 prog C0 (Z3 prog C0 (j+80)) (j+80) 9 [.ptr 0 0,.int .i64 at_] ⟨1,[(0,dO rm [] [])]⟩=some (.tup [.ptr 1 0,.nili],⟨2,[(0,dO rm [] []),(1,slB at_ 0 (vO []) false)]⟩))(RO:∀ j,300<j->Z6 prog C0 (Z3 prog C0 (j+100)) (j+100) 10 [rNil rm,.int .i64 at_] ⟨0,[]⟩=some (.tup [sR rm [] [] at_ 0 [] false,.int .i64 0],⟨0,[]⟩))(L:Z2 prog C0 (n+900) 3 0 0 (n+900) (sdE at_ l 0) (sdS rm [] [] at_ 0 (vO []) [] false)=some (.exit 0,sdX at_ l l.length,sdS rm m p at_ t (vI w) w lo))(hw:Z6 prog C0 (Z3 prog C0 (n+899)) (n+899) 7 [] ⟨0,[]⟩=some (.bool true,⟨0,[]⟩)):
  Z6 prog C0 (Z3 prog C0 (n+900)) (n+900) 3 [.int .u8 rm,.int .i64 at_,.isl 4 (Zf l)] ⟨0,[]⟩=some (.bool true,⟨0,[]⟩):=by
 have f1:=light_any (n+879) l (by omega)
 have f2:(!Xi l)=false:=by simp;omega
 have f3:LV.bool (if (!Xi l)=true then true else decide (1099511627776<at_))=LV.bool false:=by simp [-List.reduceReplicate,hl,hl2,h0,h1,a0,a1,hn,L,hw];omega
 have f4:LV.int i64 (IntKind.wrap i64 rm)=LV.int i64 rm:=by simp (disch:=omega)
 have f5:=new_ok (n+889) rm h0 (by omega)
 have f6:=SO (n+819);have f7:=RO (n+799) (by omega)
 have f8:=of_nil (n+879);have f9:=L
 have f10:=hw;exact drn (fun h=>ai (f1)<|ai (congrArg some f2)<|ai (congrArg some f2)<|ai (f3)<|ai (f4)<|ai (f5)<|ai (f6)<|ai (f4)<|ai (f7)<|ai (f8)<|ai (Eq.refl (Z9 f9))<|ai (f9)<|ai (f10)<|h) (.s (.a) (.s (.s (.r [.a,.f (rOf f1),.a,.a,.g false (.a),.g false (.a),.v (vOf f3) (.a)]) (.a)) (.s (.r [.a,.v (vOf f4) (.a),.f (rOf f5)]) (.s (.a) (.s (.r [.a,.a,.f (rOf f6)]) (.s (.r [.a,.v (vOf f4) (.a),.a,.a,.f (rOf f7)]) (.s (.s (.r [.a,.f (rOf f8)]) (.a)) (.s (.s (.a) (.k (.l (.h [] (eOf f9) (Zp f9) (rOf f9))))) (.s (.r [.f (rOf f10)]) (.a)))))))))) [] .a (by kernel_rfl)
theorem sd_heavy(n:Nat)(rm at_:Int)(l:List Act4)(hl:Xi l=false∨1099511627776<at_)(hn:400<=n)(hw:Z6 prog C0 (Z3 prog C0 (n+899)) (n+899) 7 [] ⟨0,[]⟩=some (.bool true,⟨0,[]⟩)):
  Z6 prog C0 (Z3 prog C0 (n+900)) (n+900) 3 [.int .u8 rm,.int .i64 at_,.isl 4 (Zf l)] ⟨0,[]⟩=some (.bool true,⟨0,[]⟩):=by
 by_cases h:Xi l=false
 ·have f1:=light_any (n+879) l (by omega)
  have f2:(!Xi l)=true:=by simp;omega
  have f3:Xf (!Xi l) (LV.bool true) LV.any=some (LV.bool true):=by simp;omega
  have f4:=hw;exact drn (fun h=>ai (f1)<|ai (congrArg some f2)<|ai (congrArg some f2)<|ai (Y3 (st:=(St.mk 0 [])) f3)<|ai (f4)<|h) (.s (.a) (.s (.s (.r [.a,.f (rOf f1),.a,.a,.g true (.a),.g true (.a),.t (rOf (Y3 (st:=(St.mk 0 [])) f3))]) (.c (.s (.r [.f (rOf f4)]) (.a)))) .a)) [] .a (by kernel_rfl)
 ·have h2:Xi l=true:=by simpa using h
  have ha:1099511627776<at_:=hl.resolve_left (by rw [h2];simp)
  have f1:=light_any (n+879) l (by omega)
  have f2:(!Xi l)=false:=by simp;omega
  have f3:LV.bool (if (!Xi l)=true then true else decide (1099511627776<at_))=LV.bool true:=by simp;omega
  have f4:=hw;exact drn (fun h=>ai (f1)<|ai (congrArg some f2)<|ai (congrArg some f2)<|ai (f3)<|ai (f4)<|h) (.s (.a) (.s (.s (.r [.a,.f (rOf f1),.a,.a,.g false (.a),.g false (.a),.v (vOf f3) (.a)]) (.c (.s (.r [.f (rOf f4)]) (.a)))) .a)) [] .a (by kernel_rfl)
theorem sd_bad(n:Nat)(rm at_:Int)(l:List Act4)(hl:Xi l=true)(hl2:l.length<=60)(h0:0<=rm)(h1:rm<=255)(a1:at_<=1099511627776)(hn:400<=n)(op:List UInt8)(a b:Int)(SO:∀ j,Z6 prog C0 (Z3 prog C0 (j+80)) (j+80) 9 [.ptr 0 0,.int .i64 at_] ⟨1,[(0,dO rm [] [])]⟩=some (.tup [.nilp,.ifc 155 (.agg [.str op,.int .i64 a,flt [98,108,111,99,107] b 2])],⟨1,[(0,dO rm [] [])]⟩))(RO:∀ j,300<j->Z6 prog C0 (Z3 prog C0 (j+100)) (j+100) 10 [rNil rm,.int .i64 at_] ⟨0,[]⟩=some (.tup [sR rm [] [] 0 0 [] false,.int .i64 2],⟨0,[]⟩))(hw:Z6 prog C0 (Z3 prog C0 (n+899)) (n+899) 7 [] ⟨0,[]⟩=some (.bool true,⟨0,[]⟩)):
  Z6 prog C0 (Z3 prog C0 (n+900)) (n+900) 3 [.int .u8 rm,.int .i64 at_,.isl 4 (Zf l)] ⟨0,[]⟩=some (.bool true,⟨0,[]⟩):=by
 rcases Nat.eq_zero_or_pos l.length with z | z
 ·have z2:=List.length_eq_zero_iff.1 z
  subst z2;have f1:Z6 prog C0 (Z3 prog C0 (n+899)) (n+899) 6 [.isl 4 []] (St.mk 0 [])=some (LV.bool true,St.mk 0 []):=by kernel_rfl
  have f2:LV.bool (if false=true then true else decide (1099511627776<at_))=LV.bool false:=by simp;omega
  have f3:LV.int i64 (IntKind.wrap i64 rm)=LV.int i64 rm:=by simp (disch:=omega)
  have f4:=new_ok (n+889) rm h0 (by omega)
  have f5:=SO (n+819);have f6:=RO (n+799) (by omega)
  have f7:=of_wrap (n+879) op [98,108,111,99,107] a b 2;have f8:=hw;exact drn (fun h=>ai (f1)<|ai (f2)<|ai (f3)<|ai (f4)<|ai (f5)<|ai (f3)<|ai (f6)<|ai (f7)<|ai (f8)<|h) (.s (.a) (.s (.s (.r [.a,.f (rOf f1),.a,.a,.a,.a,.v (vOf f2) (.a)]) (.a)) (.s (.r [.a,.v (vOf f3) (.a),.f (rOf f4)]) (.s (.a) (.s (.r [.a,.a,.f (rOf f5)]) (.s (.r [.a,.v (vOf f3) (.a),.a,.a,.f (rOf f6)]) (.s (.s (.r [.a,.f (rOf f7)]) (.a)) (.s (.a) (.s (.r [.f (rOf f8)]) (.a)))))))))) [] .a (by kernel_rfl)
 ·have f1:=light_any (n+879) l (by omega)
  have f2:(!Xi l)=false:=by simp;omega
  have f3:LV.bool (if (!Xi l)=true then true else decide (1099511627776<at_))=LV.bool false:=by simp (disch:=omega) [-List.reduceReplicate,hl,hl2,h0,h1,a1,hn,hw,z]
  have f4:LV.int i64 (IntKind.wrap i64 rm)=LV.int i64 rm:=by simp (disch:=omega)
  have f5:=new_ok (n+889) rm h0 (by omega)
  have f6:=SO (n+819);have f7:=RO (n+799) (by omega)
  have f8:=of_wrap (n+879) op [98,108,111,99,107] a b 2;have f9:decide (0<((Zf l).length:Int))=true:=by simp;omega
  have f10:LV.bool (if decide (0<((Zf l).length:Int))=true then false else false)=LV.bool false:=by simp
  have f11:=hw;exact drn (fun h=>ai (f1)<|ai (congrArg some f2)<|ai (congrArg some f2)<|ai (f3)<|ai (f4)<|ai (f5)<|ai (f6)<|ai (f4)<|ai (f7)<|ai (f8)<|ai (congrArg some f9)<|ai (congrArg some f9)<|ai (f10)<|ai (f11)<|h) (.s (.a) (.s (.s (.r [.a,.f (rOf f1),.a,.a,.g false (.a),.g false (.a),.v (vOf f3) (.a)]) (.a)) (.s (.r [.a,.v (vOf f4) (.a),.f (rOf f5)]) (.s (.a) (.s (.r [.a,.a,.f (rOf f6)]) (.s (.r [.a,.v (vOf f4) (.a),.a,.a,.f (rOf f7)]) (.s (.s (.r [.a,.f (rOf f8)]) (.a)) (.s (.s (.a) (.k (.l (.i (.s (.s (.r [.a,.a,.a,.a,.a,.g true (.a),.g true (.a),.v (vOf f10) (.a)]) (.a)) .a) (.a))))) (.s (.r [.f (rOf f11)]) (.a)))))))))) [] .a (by kernel_rfl)
end Go.Mac
namespace Go.Mac
open Go Go.Eng Go.Proofs
open Go.IntKind (i64)
open Go.Proofs.Tryz (prog)
set_option maxHeartbeats 0
set_option maxRecDepth 100000
theorem sput_longO(n:Nat)(at_ tn:Int)(w:List Int)(lo:Bool)(rm:Int)(m:ML)(p:PL)(v:List Int)(hv:47<v.length)(hv2:v.length<=1000000):Z6 prog C0 (Z3 prog C0 (n+40)) (n+40) 13 [.ptr 0 0,.isl 1 (bys v)] ⟨2,[(0,sO at_ tn (vO w) lo),(1,dO rm m p)]⟩ =
  some (.ifc 155 (.agg [.str [118,97,108,117,101],.int .i64 v.length,.ifc 40 (.int .i64 6)]),⟨2,[(0,sO at_ tn (vO w) lo),(1,dO rm m p)]⟩):=by
 have f1:decide (47<((bys v).length:Int))=true:=by simp;omega
 have f2:(LV.ifc 155 (LV.agg [LV.str [118,97,108,117,101],.int i64 ((bys v).length:Int),LV.ifc 40 (LV.int i64 6)]),St.mk 2 [(0,LObj.box 106 [.ptr 1 0,.int i64 at_,.int i64 tn,.own 5 1 (bys w),.bool lo]),(1,LObj.box 97 [.int i64 rm,.omap i64 (Zn m) (Yl m),.own 116 2 (Zg p)])])=(LV.ifc 155 (LV.agg [LV.str [118,97,108,117,101],.int i64 (v.length:Int),LV.ifc 40 (LV.int i64 6)]),St.mk 2 [(0,sO at_ tn (vO w) lo),(1,dO rm m p)]):=by simp
 exact drn (fun h=>ai (congrArg LV.bool f1)<|f2) (.s (.a) (.s (.k (.s (.a) (.b true (.a)))) .a)) [] .a (by kernel_rfl)
theorem sput_longI(n:Nat)(at_ tn:Int)(w:List Int)(lo:Bool)(rm:Int)(m:ML)(p:PL)(v:List Int)(hv:47<v.length)(hv2:v.length<=1000000):Z6 prog C0 (Z3 prog C0 (n+40)) (n+40) 13 [.ptr 0 0,.isl 1 (bys v)] ⟨2,[(0,sO at_ tn (vI w) lo),(1,dO rm m p)]⟩ =
  some (.ifc 155 (.agg [.str [118,97,108,117,101],.int .i64 v.length,.ifc 40 (.int .i64 6)]),⟨2,[(0,sO at_ tn (vI w) lo),(1,dO rm m p)]⟩):=by
 have f1:decide (47<((bys v).length:Int))=true:=by simp;omega
 have f2:(LV.ifc 155 (LV.agg [LV.str [118,97,108,117,101],.int i64 ((bys v).length:Int),LV.ifc 40 (LV.int i64 6)]),St.mk 2 [(0,LObj.box 106 [.ptr 1 0,.int i64 at_,.int i64 tn,.isl 1 (bys w),.bool lo]),(1,LObj.box 97 [.int i64 rm,.omap i64 (Zn m) (Yl m),.own 116 2 (Zg p)])])=(LV.ifc 155 (LV.agg [LV.str [118,97,108,117,101],.int i64 (v.length:Int),LV.ifc 40 (LV.int i64 6)]),St.mk 2 [(0,sO at_ tn (vI w) lo),(1,dO rm m p)]):=by simp
 exact drn (fun h=>ai (congrArg LV.bool f1)<|f2) (.s (.a) (.s (.k (.s (.a) (.b true (.a)))) .a)) [] .a (by kernel_rfl)
end Go.Mac
namespace Go.Mac
open Go Go.Eng Go.Proofs Go.Mac.Nd
open Go.Proofs.Tryz (prog)
set_option maxRecDepth 100000
abbrev vB(o:Bool)(w:List Int):LV:=match o with
 | true=>vO w
 | false=>vI w
theorem opT_ok{t0 t1:Int}{v0 v1:List Int}(a0:0<=t0/\t0<=1152921504606846976/\v0.length<=47)(a1:0<=t1/\t1<=1152921504606846976/\v1.length<=47)(b0:byB v0)(b1:byB v1):
  0<=(opT t0 t1 v0 v1).1/\(opT t0 t1 v0 v1).1<=1152921504606846976/\(opT t0 t1 v0 v1).2.length<=47/\byB (opT t0 t1 v0 v1).2:=by
 unfold opT
 split <;> split
 ·exact ⟨a1.1,a1.2.1,a1.2.2,b1⟩
 ·exact ⟨a0.1,a0.2.1,a0.2.2,b0⟩
 ·exact ⟨a1.1,a1.2.1,a1.2.2,b1⟩
 ·exact ⟨by simp,by simp,by simp,fun x hx=>by simp at hx⟩
abbrev opW(m:ML)(p:PL)(at_:Int):Int × List Int:=opT (rdB (rd m p at_)).1 (rdB (rd m p (at_+1))).1 (rdB (rd m p at_)).2 (rdB (rd m p (at_+1))).2
theorem sopen_any(rm:Int)(m:ML)(p:PL)(hp:p.length<=1000000)(ho:okP p)(at_:Int)(h0:0<=at_)(h1:at_<=1073741823)(hB:∀ a,byB (rd m p a)):
  ∃ o:Bool,∀ j,Z6 prog C0 (Z3 prog C0 (j+80)) (j+80) 9 [.ptr 0 0,.int .i64 at_] ⟨1,[(0,dO rm m p)]⟩=some (.tup [.ptr 1 0,.nili],⟨2,[(0,dO rm m p),(1,slB at_ (opW m p at_).1 (vB o (opW m p at_).2) false)]⟩):=by
 have r0:=fun k=>sread_any k (rd m p at_) (Zk m p at_) (hB at_)
 have r1:=fun k=>sread_any k (rd m p (at_+1)) (Zk m p (at_+1)) (hB (at_+1))
 have g0:=(rdB_le (hB at_)).1;have g1:=(rdB_le (hB (at_+1))).1;unfold opW;generalize (rdB (rd m p at_)).1=t0 at *;generalize (rdB (rd m p (at_+1))).1=t1 at *;generalize (rdB (rd m p at_)).2=v0 at *;generalize (rdB (rd m p (at_+1))).2=v1 at *;unfold opT
 by_cases A:t0 % 2=0/\0<t0
 ·rw [if_pos A]
  by_cases B:t1 % 2=1
  ·by_cases q:t0<t1
   ·rw [if_pos ⟨B,q⟩];exact ⟨false,fun j=>so_AB j rm m p hp ho at_ h0 h1 t0 t1 v0 v1 g0 g1 r0 r1 A.1 B A.2 q⟩
   ·rw [if_neg (fun h=>q h.2)];exact ⟨false,fun j=>so_A2 j rm m p hp ho at_ h0 h1 t0 t1 v0 v1 g0 g1 r0 r1 A.1 B A.2 (by omega)⟩
  ·rw [if_neg (fun h=>B h.1)];exact ⟨false,fun j=>so_A1 j rm m p hp ho at_ h0 h1 t0 t1 v0 v1 g0 g1 r0 r1 A.1 B A.2⟩
 ·rw [if_neg A]
  by_cases B:t1 % 2=1
  ·rw [if_pos ⟨B,by omega⟩];exact ⟨false,fun j=>so_B j rm m p hp ho at_ h0 h1 t0 t1 v0 v1 g0 g1 r0 r1 A B (by omega)⟩
  ·rw [if_neg (fun h=>B h.1)];exact ⟨true,fun j=>so_N j rm m p hp ho at_ h0 h1 t0 t1 v0 v1 g0 g1 r0 r1 A B⟩
theorem ropen_any(rm:Int)(m:ML)(p:PL)(hM:okM m)(hq:okQ p)(hp:p.length<=100)(hm:m.length<=100)(at_:Int)(h0:0<=at_)(h1:at_<=1073741823)(hB:∀ a,byB (rd m p a)):
  ∀ j,300<j->Z6 prog C0 (Z3 prog C0 (j+100)) (j+100) 10 [rR rm m p,.int .i64 at_] ⟨0,[]⟩=some (.tup [sR rm m p at_ (opW m p at_).1 (opW m p at_).2 false,.int .i64 0],⟨0,[]⟩):=by
 intro j hj;have h64:∀ x∈m,x.2.length=64:=fun x hx=>(hM.2 x hx).2
 exact ro_any j rm m p at_ h0 h1 (rd m p at_) (rd m p (at_+1)) _ _ _ _ (rdB_le (hB at_)).1 (rdB_le (hB (at_+1))).1 hj
  (fun k hk=>read_any k rm m p (by omega) (by omega) hq.ok64 h64 at_ h0 (by omega) (by omega) (by omega))
  (fun k hk=>read_any k rm m p (by omega) (by omega) hq.ok64 h64 (at_+1) (by omega) (by omega) (by omega) (by omega))
  (fun k=>rr_any k _ (Zk m p at_) (hB at_)) (fun k=>rr_any k _ (Zk m p (at_+1)) (hB (at_+1)))
theorem writeS_any(rm:Int)(m:ML)(p:PL)(hp:p.length<=10000)(ho:okQ p)(a:Int)(ha:inR a):
  ((a∈Zw (Zt m p)∨((Zt m p).length:Int)<rm)/\∀ (k:Nat) (b:List Int),b.length=64->Z6 prog C0 (Z3 prog C0 (k+20)) (k+20) 25 [.ptr 0 0,.int .i64 a,.sl 1 1 0 64 none] ⟨2,[(0,dO rm m p),(1,.row 5 1 (bys b))]⟩=some (.nili,⟨2,[(0,dO rm m (p++[(a,some b)])),(1,.row 5 1 (bys b))]⟩)) ∨
  (a∉Zw (Zt m p)/\rm<=(Zt m p).length/\∀ (k:Nat) (b:List Int),b.length=64->Z6 prog C0 (Z3 prog C0 (k+20)) (k+20) 25 [.ptr 0 0,.int .i64 a,.sl 1 1 0 64 none] ⟨2,[(0,dO rm m p),(1,.row 5 1 (bys b))]⟩=some (flt [98,108,111,99,107] a 7,⟨2,[(0,dO rm m p),(1,.row 5 1 (bys b))]⟩)):=by
 by_cases hm:a∈Zw (Zt m p)
 ·obtain ⟨c,h1,h2⟩:=needs_at m p a hm
  exact .inl ⟨.inl hm,fun k b hb=>writeS_old k a b rm m p ha.1 ha.2 hb (by omega) ho.ok64.okP c h1 h2⟩
 ·by_cases hr:((Zt m p).length:Int)<rm
  ·exact .inl ⟨.inr hr,fun k b hb=>writeS_new k a b rm m p ha.1 ha.2 hb (by omega) ho.ok64.okP ((needs_none _ _).2 hm) hr⟩
  ·exact .inr ⟨hm,by omega,fun k b hb=>writeS_full k a b rm m p ha.1 ha.2 hb (by omega) ho.ok64.okP ((needs_none _ _).2 hm) (by omega)⟩
structure SInv (i:Nat) (m:ML) (p:PL) (t:Int) (w:List Int):Prop where
 om:okM m
 oq:okQ p
 bm:byM m
 bq:byQ p
 len:m.length+p.length<=i
 t0:0<=t
 t1:t<=1152921504606846976+i
 wl:w.length<=100
theorem sd_facts(rm:Int)(m:ML)(p:PL)(w:List Int)(hm:okM m)(hq:okQ p)(hl:m.length+p.length<=61)(hw:w.length<=100):
  (∀ j,300<j->Z6 prog C0 (Z3 prog C0 (j+20)) (j+20) 19 [.isl 1 (bys w),.isl 1 (bys w)] ⟨0,[]⟩=some (.bool true,⟨0,[]⟩)) /\
  (∀ j,300<j->Z6 prog C0 (Z3 prog C0 (j+60)) (j+60) 22 [.ptr 0 0] ⟨1,[(0,dO rm m p)]⟩=some (.isl 2 (Z1 m),⟨1,[(0,dO rm m p)]⟩)) /\
  (∀ j,300<j->Z6 prog C0 (Z3 prog C0 (j+40)) (j+40) 21 [.isl 2 (Z1 m),.isl 2 (Z1 m)] ⟨0,[]⟩=some (.bool true,⟨0,[]⟩)):=by
 have h64:∀ x∈m,x.2.length=64:=fun x hx=>(hm.2 x hx).2
 refine ⟨fun j hj=>?_,fun j hj=>?_,fun j hj=>cells_any j m (by omega) h64 (by omega) (by omega)⟩
 ·have:=same_any j w w (by omega) (by omega) (by omega)
  simpa using this
 ·have:=cells_ok j rm m p (hm.keys (by omega)) (by omega)
  have e:Xw m=Z1 m:=by
   unfold Xw Z1;refine List.map_congr_left fun x hx=>?_
   simp only [cellL,cellR,blk64 (h64 x hx)]
  rw [e] at this;exact this
theorem needs_lenS(m:ML)(p:PL):(Zt m p).length<=m.length+p.length:=by
 rw [Xc];have:=sub_len (l:=Zw (Zt m p)) (k:=Zn m++p.map (·.1)) (needs_nodup m p) (fun a ha=>by
  rw [Y6] at ha
  rcases ha with h | ⟨b,h⟩
  ·exact List.mem_append.2 (.inl h)
  ·exact List.mem_append.2 (.inr (List.mem_map.2 ⟨_,h,rfl⟩)))
 simpa [Zn] using this
theorem apply_lenS{m:ML}{p:PL}(hm:okM m)(hq:okQ p):(applyM p m).length<=m.length+p.length:=by
 have h1:=sync_needs m p;rw [needs_of _ (hm.apply hq).1] at h1;exact Nat.le_trans h1 (needs_lenS m p)
theorem crash_lenS{m:ML}{p:PL}(hm:okM m)(hq:okQ p)(ks:List Int)(cut:Int):(V6 m p ks cut).length<=m.length+p.length:=by
 have h1:=crash_needs m p hq hm ks cut;have hA:Asc (V6 m p ks cut):=(crashM_ok ks cut _ p 0 m hq hm).1.1;rw [needs_of _ hA] at h1;exact Nat.le_trans h1 (needs_lenS m p)
set_option maxHeartbeats 0
theorem opW_ok(m:ML)(p:PL)(at_:Int)(hB:∀ a,byB (rd m p a)):0<=(opW m p at_).1/\(opW m p at_).1<=1152921504606846976/\(opW m p at_).2.length<=47/\byB (opW m p at_).2:=
 opT_ok (rdB_le (hB at_)) (rdB_le (hB (at_+1))) (rdB_by (hB at_)) (rdB_by (hB (at_+1)))
theorem sd_any(rm at_:Int)(h0:0<=at_)(h1:at_<=1073741823)(l:List Act4)(hl:l.length<=60)(i:Nat)(hi:i<l.length)(x:Act4)(hx:l[i]? = some x)(hL:Light x=true)(hby:byB x.b)(m:ML)(p:PL)(t:Int)(w:List Int)(lo o:Bool)(I:SInv i m p t w):
  ∃ m' p' t' w' lo' o',SInv (i+1) m' p' t' w'/\∀ (fu:Nat) (r:LX × LEnv × St),Z2 prog C0 (400+900) 3 0 0 fu (sdE at_ l ((i:Int)+1)) (sdS rm m' p' at_ t' (vB o' w') w' lo')=some r ->
   Z2 prog C0 (400+900) 3 0 0 (fu+1) (sdE at_ l i) (sdS rm m p at_ t (vB o w) w lo)=some r:=by
 obtain ⟨hm,hq,hbm,hbq,hlen,t0,t1,wl⟩:=I
 have ho:=opsL_at hx;simp only [Light,Bool.and_eq_true,decide_eq_true_eq] at hL;obtain ⟨kind,b,ks,c⟩:=x
 simp only at ho hL hby;obtain ⟨hb,hks⟩:=hL;have hB:=by_rd hbm hbq;obtain ⟨M,C,K⟩:=sd_facts rm m p w hm hq (by omega) wl
 have hi0:(0:Int)<=(i:Int):=by omega
 have hi1:(i:Int)<(l.length:Int):=by omega
 by_cases k0:kind=0
 ·subst k0
  by_cases hv:b.length<=47
  ·cases lo with
   | true =>
    refine ⟨m,p,t,w,true,o,⟨hm,hq,hbm,hbq,by omega,t0,by omega,wl⟩,fun fu r hr=>?_⟩
    have R:=fun j (hj:300<j)=>rp_loose j rm m p at_ t w b hv
    cases o with
    | true=>exact sd_eO 400 fu rm at_ l hl i hi0 hi1 c b ks ho (by omega) m m p p t t w w true (by omega) (by omega) wl wl hb [116,117,114,110] t 10 (fun j=>sput_looseO (j+20) at_ t w true rm m p b hv rfl) R M C K r hr
    | false=>exact sd_eI 400 fu rm at_ l hl i hi0 hi1 c b ks ho (by omega) m m p p t t w w true (by omega) (by omega) wl wl hb [116,117,114,110] t 10 (fun j=>sput_looseI (j+20) at_ t w true rm m p b hv rfl) R M C K r hr
   | false =>
    have ha:inR (at_+(t+1) % 2):=⟨by omega,by omega⟩
    have el:=encR_length (t+1) b hv;have eb:=blk64 el;have eg:=encG_eq (t+1) b (by omega) hv
    have eby:=encR_by (t+1) hv hby;have Rok:=fun (p':PL) (j:Nat) (hj:300<j)=>rput10_ok j rm m p p' at_ t w b hv h0 h1 t0 (by omega) hj
    have Rfu:=fun (j:Nat) (hj:300<j)=>rput10_full j rm m p at_ t w b hv h0 h1 t0 (by omega) hj
    have WO:=fun j=>sg_wO j at_ t w rm m p b hv t0 (by omega) h0 h1
    have WI:=fun j=>sg_wI j at_ t w rm m p b hv t0 (by omega) h0 h1
    rw [eg] at WO WI;generalize encR (t+1) b=B at *;have T:=fun j (hj:200<j)=>taken_any j rm m p (by omega) (by omega) (at_+(t+1) % 2) (by omega) (by omega)
    have U:=fun j (hj:200<j)=>used_ref j rm m p (by omega) (by omega) hm.1 hj
    rcases writeS_any rm m p (by omega) hq _ ha with ⟨e3,W⟩ | ⟨e1,e2,W⟩
    ·have hq2:okQ (p++[(at_+(t+1) % 2,some B)]):=hq.snoc ha _ (fun c hc=>by injection hc with hc;subst hc;exact el)
     have R:=fun (j:Nat) (hj:300<j)=>Rok (p++[(at_+(t+1) % 2,some B)]) j hj (fun k hk=>by
       by_cases hk2:at_+(t+1) % 2∈Zw (Zt m p)
       ·rw [decide_eq_true hk2] at T
        have:=rput_okT k rm m p (by omega) (by omega) _ B ha.1 ha.2 (by omega) hk T
        rw [eb] at this;exact this
       ·rw [decide_eq_false hk2] at T
        have:=rput_okF k rm m p (by omega) (by omega) _ B ha.1 ha.2 (by omega) _ (e3.resolve_left hk2) hk T U
        rw [eb] at this;exact this)
     obtain ⟨M2,C2,K2⟩:=sd_facts rm m (p++[(at_+(t+1) % 2,some B)]) b hm hq2 (by simp;omega) hb
     refine ⟨m,p++[(at_+(t+1) % 2,some B)],t+1,b,true,true,⟨hm,hq2,hbm,hbq.snoc _ eby,by simp;omega,by omega,by push_cast;omega,hb⟩,fun fu r hr=>?_⟩
     cases o with
     | true=>exact sd_pO 400 fu rm at_ l hl i hi0 hi1 c b ks ho (by omega) m m p _ t (t+1) w b false (by omega) (by simp;omega) wl hb hb (fun j=>WO j W) R M2 C2 K2 r hr
     | false=>exact sd_pI 400 fu rm at_ l hl i hi0 hi1 c b ks ho (by omega) m m p _ t (t+1) w b false (by omega) (by simp;omega) wl hb hb (fun j=>WI j W) R M2 C2 K2 r hr
    ·rw [decide_eq_false e1] at T
     have R:=fun (j:Nat) (hj:300<j)=>Rfu j hj (fun k hk=>rput_full k rm m p _ _ ha.1 ha.2 (by omega) _ e2 hk T U)
     refine ⟨m,p,t,w,false,o,⟨hm,hq,hbm,hbq,by omega,t0,by omega,wl⟩,fun fu r hr=>?_⟩
     cases o with
     | true=>exact sd_fO 400 fu rm at_ l hl i hi0 hi1 c b ks ho (by omega) m m p p t t w w false (by omega) (by omega) wl wl hb [116,117,114,110] _ (t+1) _ 7 (fun j=>sg_fO j at_ t w rm m p b hv t0 (by omega) h0 h1 W) R M C K r hr
     | false=>exact sd_fI 400 fu rm at_ l hl i hi0 hi1 c b ks ho (by omega) m m p p t t w w false (by omega) (by omega) wl wl hb [116,117,114,110] _ (t+1) _ 7 (fun j=>sg_fI j at_ t w rm m p b hv t0 (by omega) h0 h1 W) R M C K r hr
  ·refine ⟨m,p,t,w,lo,o,⟨hm,hq,hbm,hbq,by omega,t0,by omega,wl⟩,fun fu r hr=>?_⟩
   have R:=fun j (hj:300<j)=>rp_long j rm m p at_ t w b lo (by omega) (by omega)
   cases o with
   | true=>exact sd_eO 400 fu rm at_ l hl i hi0 hi1 c b ks ho (by omega) m m p p t t w w lo (by omega) (by omega) wl wl hb [118,97,108,117,101] b.length 6 (fun j=>sput_longO (j+20) at_ t w lo rm m p b (by omega) (by omega)) R M C K r hr
   | false=>exact sd_eI 400 fu rm at_ l hl i hi0 hi1 c b ks ho (by omega) m m p p t t w w lo (by omega) (by omega) wl wl hb [118,97,108,117,101] b.length 6 (fun j=>sput_longI (j+20) at_ t w lo rm m p b (by omega) (by omega)) R M C K r hr
 by_cases k1:kind=1
 ·subst k1
  have hm2:=hm.apply hq;have al:=apply_lenS hm hq;obtain ⟨M2,C2,K2⟩:=sd_facts rm (applyM p m) [] w hm2 okQ.nil (by simp;omega) wl
  have R:=fun j (hj:300<j)=>rsync10 j rm m (applyM p m) p at_ t w lo hj (fun k hk=>sync_ref k rm m p (by omega) (by omega) hm.1 (by omega))
  refine ⟨applyM p m,[],t,w,false,o,⟨hm2,okQ.nil,hbm.apply hbq,fun x hx=>by simp at hx,by simp;omega,t0,by omega,wl⟩,fun fu r hr=>?_⟩
  cases o with
  | true=>exact sd_sO 400 fu rm at_ l hl i hi0 hi1 c b ks ho (by omega) m _ p p t t w w lo (by omega) (by omega) wl wl hb (fun j hj=>ssync_okO j at_ t w lo rm m _ p (by omega) (by omega) hq.ok64.okP (applyP_mapE p m)) R M2 C2 K2 r hr
  | false=>exact sd_sI 400 fu rm at_ l hl i hi0 hi1 c b ks ho (by omega) m _ p p t t w w lo (by omega) (by omega) wl wl hb (fun j hj=>ssync_okI j at_ t w lo rm m _ p (by omega) (by omega) hq.ok64.okP (applyP_mapE p m)) R M2 C2 K2 r hr
 by_cases k2:kind=2
 ·subst k2
  obtain ⟨o2,P⟩:=sopen_any rm m p (by omega) hq.ok64.okP at_ h0 h1 hB
  have R:=ropen_any rm m p hm hq (by omega) (by omega) at_ h0 h1 hB
  obtain ⟨q1,q2,q3,q4⟩:=opW_ok m p at_ hB;obtain ⟨M2,C2,K2⟩:=sd_facts rm m p (opW m p at_).2 hm hq (by omega) (by omega)
  refine ⟨m,p,(opW m p at_).1,(opW m p at_).2,false,o2,⟨hm,hq,hbm,hbq,by omega,q1,by omega,by omega⟩,fun fu r hr=>?_⟩
  cases o <;> cases o2
  ·exact sd_oII 400 fu rm at_ l hl i hi0 hi1 c b ks ho (by omega) m m p p t _ w _ lo (by omega) (by omega) wl (by omega) hb (fun j hj=>P j) R M2 C2 K2 r hr
  ·exact sd_oIO 400 fu rm at_ l hl i hi0 hi1 c b ks ho (by omega) m m p p t _ w _ lo (by omega) (by omega) wl (by omega) hb (fun j hj=>P j) R M2 C2 K2 r hr
  ·exact sd_oOI 400 fu rm at_ l hl i hi0 hi1 c b ks ho (by omega) m m p p t _ w _ lo (by omega) (by omega) wl (by omega) hb (fun j hj=>P j) R M2 C2 K2 r hr
  ·exact sd_oOO 400 fu rm at_ l hl i hi0 hi1 c b ks ho (by omega) m m p p t _ w _ lo (by omega) (by omega) wl (by omega) hb (fun j hj=>P j) R M2 C2 K2 r hr
 by_cases k3:kind=3
 ·subst k3
  have hm2:=(crashM_ok ks c (Yg ks p.length) p 0 m hq hm).1;have al:=crash_lenS hm hq ks c;have hbm2:=hbm.crash hbq ks c;have hB2:=by_rd (p:=[]) hbm2 (fun x hx=>by simp at hx)
  obtain ⟨o2,P⟩:=sopen_any rm (V6 m p ks c) [] (by simp) okQ.nil.ok64.okP at_ h0 h1 hB2
  have R:=ropen_any rm (V6 m p ks c) [] hm2 okQ.nil (by simp) (by omega) at_ h0 h1 hB2
  obtain ⟨q1,q2,q3,q4⟩:=opW_ok (V6 m p ks c) [] at_ hB2;obtain ⟨M2,C2,K2⟩:=sd_facts rm (V6 m p ks c) [] (opW (V6 m p ks c) [] at_).2 hm2 okQ.nil (by simp;omega) (by omega)
  have Q:=fun j (hj:300<j)=>crash_any j rm m p (by omega) (by omega) hq.ok64 ks c
  have Z:=fun j (hj:300<j)=>crash_c0 j rm m p (by omega) (by omega) hq hm ks c
  refine ⟨V6 m p ks c,[],(opW (V6 m p ks c) [] at_).1,(opW (V6 m p ks c) [] at_).2,false,o2,⟨hm2,okQ.nil,hbm2,fun x hx=>by simp at hx,by simp;omega,q1,by omega,by omega⟩,fun fu r hr=>?_⟩
  cases o <;> cases o2
  ·exact sd_cII 400 fu rm at_ l hl i hi0 hi1 c b ks ho (by omega) m _ p p t _ w _ lo (by omega) (by omega) wl (by omega) hb Q Z (fun j hj=>P j) R M2 C2 K2 r hr
  ·exact sd_cIO 400 fu rm at_ l hl i hi0 hi1 c b ks ho (by omega) m _ p p t _ w _ lo (by omega) (by omega) wl (by omega) hb Q Z (fun j hj=>P j) R M2 C2 K2 r hr
  ·exact sd_cOI 400 fu rm at_ l hl i hi0 hi1 c b ks ho (by omega) m _ p p t _ w _ lo (by omega) (by omega) wl (by omega) hb Q Z (fun j hj=>P j) R M2 C2 K2 r hr
  ·exact sd_cOO 400 fu rm at_ l hl i hi0 hi1 c b ks ho (by omega) m _ p p t _ w _ lo (by omega) (by omega) wl (by omega) hb Q Z (fun j hj=>P j) R M2 C2 K2 r hr
 refine ⟨m,p,t,w,lo,o,⟨hm,hq,hbm,hbq,by omega,t0,by omega,wl⟩,fun fu r hr=>?_⟩
 cases o with
 | true=>exact sd_iO 400 fu rm at_ l hl i hi0 hi1 kind c b ks ho (by omega) m m p p t t w w lo (by omega) (by omega) wl wl hb k0 k1 k2 k3 M C K r hr
 | false=>exact sd_iI 400 fu rm at_ l hl i hi0 hi1 kind c b ks ho (by omega) m m p p t t w w lo (by omega) (by omega) wl wl hb k0 k1 k2 k3 M C K r hr
theorem sd_loop(rm at_:Int)(h0:0<=at_)(h1:at_<=1073741823)(l:List Act4)(hl:l.length<=60)(hL:l.all Light=true)(hby:∀ x∈l,byB x.b):∀ (j i fu:Nat) (m:ML) (p:PL) (t:Int) (w:List Int) (lo o:Bool),i+j=l.length->j<fu->SInv i m p t w ->
  ∃ m' p' t' w' lo' o',Z2 prog C0 (400+900) 3 0 0 fu (sdE at_ l i) (sdS rm m p at_ t (vB o w) w lo)=some (.exit 0,sdX at_ l l.length,sdS rm m' p' at_ t' (vB o' w') w' lo')
 | 0,i,fu,m,p,t,w,lo,o,hi,hf,I=>by
  obtain ⟨fu,rfl⟩:∃ q,fu=q+1:=⟨fu-1,by omega⟩
  obtain rfl:i=l.length:=by omega
  refine ⟨m,p,t,w,lo,o,?_⟩
  cases o with
  | true=>exact sd_xO 400 fu rm at_ l hl m p t w lo
  | false=>exact sd_xI 400 fu rm at_ l hl m p t w lo
 | j+1,i,fu,m,p,t,w,lo,o,hi,hf,I=>by
  obtain ⟨fu,rfl⟩:∃ q,fu=q+1:=⟨fu-1,by omega⟩
  have hlt:i<l.length:=by omega
  have hx:l[i]? = some l[i]:=List.getElem?_eq_getElem hlt;obtain ⟨m1,p1,t1,w1,lo1,o1,I1,S⟩:=sd_any rm at_ h0 h1 l hl i hlt l[i] hx (List.all_eq_true.1 hL _ (List.getElem_mem hlt)) (hby _ (List.getElem_mem hlt)) m p t w lo o I;obtain ⟨m',p',t',w',lo',o',r1⟩:=sd_loop rm at_ h0 h1 l hl hL hby j (i+1) fu m1 p1 t1 w1 lo1 o1 (by omega) (by omega) I1
  exact ⟨m',p',t',w',lo',o',S fu _ r1⟩
theorem works_slotz:Z6 prog C0 (Z3 prog C0 (400+899)) (400+899) 7 [] ⟨0,[]⟩=some (.bool true,⟨0,[]⟩):=by kernel_rfl
theorem rdB_zero:rdB (List.replicate 64 0)=(0,[]):=by
 have e1:numB (List.replicate 64 0)=0:=by decide +kernel
 have e2:numB ((List.replicate 64 (0:Int)).drop 56)=0:=by decide +kernel
 have e3:atI (List.replicate 64 0) 8=0:=by decide +kernel
 unfold rdB;rw [e1,e2,e3,if_pos (by simp)]
 simp
theorem sd_ok(rm at_:Int)(l:List Act4)(h0:0<=rm)(h1:rm<=255)(hat:-9223372036854775808<=at_)(hby:∀ x∈l,byB x.b):
  Z6 prog C0 (Z3 prog C0 (400+900)) (400+900) 3 [.int .u8 rm,.int .i64 at_,.isl 4 (Zf l)] ⟨0,[]⟩=some (.bool true,⟨0,[]⟩):=by
 cases hL:Xi l with
 | false=>exact sd_heavy 400 rm at_ l (.inl hL) (by omega) works_slotz
 | true =>
 by_cases ha:1099511627776<at_
 ·exact sd_heavy 400 rm at_ l (.inr ha) (by omega) works_slotz
 have hL2:=hL;simp only [Xi,Bool.and_eq_true,decide_eq_true_eq] at hL2;obtain ⟨hlen,hall⟩:=hL2;have hz:rd [] []=fun _=>List.replicate 64 0:=by funext a;exact rd_nil [] a
 have zb:byB (List.replicate 64 0):=byB.rep 64;have hzl:(List.replicate 64 (0:Int)).length=64:=by simp
 have s0:=fun k=>sread_any k (List.replicate 64 0) hzl zb
 have r0:=fun k=>rr_any k (List.replicate 64 0) hzl zb
 rw [rdB_zero] at s0 r0
 by_cases hr:0<=at_/\at_<=1073741823
 ·have SO:∀ j,Z6 prog C0 (Z3 prog C0 (j+80)) (j+80) 9 [.ptr 0 0,.int .i64 at_] ⟨1,[(0,dO rm [] [])]⟩=some (.tup [.ptr 1 0,.nili],⟨2,[(0,dO rm [] []),(1,slB at_ 0 (vO []) false)]⟩):=fun j =>
   so_N j rm [] [] (by simp) okQ.nil.ok64.okP at_ hr.1 hr.2 0 0 [] [] (by omega) (by omega) (fun k=>by rw [hz];exact s0 k) (fun k=>by rw [hz];exact s0 k) (by omega) (by omega)
  have RO:=fun j (hj:300<j)=>ro_new j rm at_ hr.1 hr.2 hj r0
  obtain ⟨m',p',t',w',lo',o',L⟩:=sd_loop rm at_ hr.1 hr.2 l hlen hall hby l.length 0 1300 [] [] 0 [] false true (by omega) (by omega) ⟨okM.nil,okQ.nil,fun x hx=>by simp at hx,fun x hx=>by simp at hx,by simp,by omega,by omega,by simp⟩
  cases o' with
  | true=>exact sd_tO 400 rm at_ l hL hlen h0 h1 hr.1 hr.2 (by omega) m' p' t' w' lo' SO RO L works_slotz
  | false=>exact sd_tI 400 rm at_ l hL hlen h0 h1 hr.1 hr.2 (by omega) m' p' t' w' lo' SO RO L works_slotz
 ·by_cases hm:at_=1073741824
  ·subst hm
   exact sd_bad 400 rm 1073741824 l hL hlen h0 h1 (by omega) (by omega) _ _ _ (fun j=>so_bad1 j rm [] [] (by simp) okQ.nil.ok64.okP 0 [] (fun k=>by rw [hz];exact s0 k)) (fun j hj=>ro_bad1 j rm hj r0) works_slotz
  ·have hbad:at_<0∨1073741824<at_:=by omega
   have SO:∀ j,Z6 prog C0 (Z3 prog C0 (j+80)) (j+80) 9 [.ptr 0 0,.int .i64 at_] ⟨1,[(0,dO rm [] [])]⟩=some (.tup [.nilp,.ifc 155 (.agg [.str [115,108,111,116],.int .i64 0,flt [98,108,111,99,107] at_ 2])],⟨1,[(0,dO rm [] [])]⟩):=fun j=>so_bad j rm [] [] (by simp) okQ.nil.ok64.okP at_ hbad hat (by omega)
   exact sd_bad 400 rm at_ l hL hlen h0 h1 (by omega) (by omega) _ _ _ SO (fun j hj=>ro_bad j rm at_ hbad (by omega) hat) works_slotz
end Go.Mac
namespace Go.Mac
open Go Go.Eng Go.Proofs
open Go.IntKind (i64)
open Go.Proofs.Tryz (prog)
set_option maxHeartbeats 0
set_option maxRecDepth 100000
def C1:Cfg:=⟨fun _=>none,fun f=>f==54⟩
theorem right_ok1(n:Nat)(at_:Int)(h:0<=at_)(h2:at_<=1073741824):Z6 prog C1 (Z3 prog C1 (n+9)) (n+9) 63 [.int .i64 at_] ⟨0,[]⟩=some (.nili,⟨0,[]⟩):=by
 have f1:decide (at_<0)=false:=by simp;omega
 have f2:LV.bool (if decide (at_<0)=true then true else decide (1073741824<at_))=LV.bool false:=by simp;omega
 exact drn (fun h=>ai (congrArg some f1)<|ai (congrArg some f1)<|ai (f2)<|h) (.s (.a) (.s (.s (.r [.a,.a,.a,.g false (.a),.g false (.a),.v (vOf f2) (.a)]) (.a)) (.a))) [] .a (by kernel_rfl)
theorem right_no1(n:Nat)(at_:Int)(h:at_<0∨1073741824<at_):Z6 prog C1 (Z3 prog C1 (n+9)) (n+9) 63 [.int .i64 at_] ⟨0,[]⟩=some (.ifc 155 (.agg [.str [98,108,111,99,107],.int .i64 at_,.ifc 40 (.int .i64 2)]),⟨0,[]⟩):=by
 by_cases h1:at_<0
 ·have f1:decide (at_<0)=true:=by simp;omega
  have f2:Xf (decide (at_<0)) (LV.bool true) LV.any=some (LV.bool true):=by simp;omega
  exact drn (fun h=>ai (congrArg some f1)<|ai (congrArg some f1)<|ai (Y3 (st:=(St.mk 0 [])) f2)<|h) (.s (.a) (.s (.s (.r [.a,.a,.a,.g true (.a),.g true (.a),.t (rOf (Y3 (st:=(St.mk 0 [])) f2))]) (.a)) .a)) [] .a (by kernel_rfl)
 ·have:1073741824<at_:=by omega
  have f1:decide (at_<0)=false:=by simp;omega
  have f2:LV.bool (if decide (at_<0)=true then true else decide (1073741824<at_))=LV.bool true:=by simp;omega
  exact drn (fun h=>ai (congrArg some f1)<|ai (congrArg some f1)<|ai (f2)<|h) (.s (.a) (.s (.s (.r [.a,.a,.a,.g false (.a),.g false (.a),.v (vOf f2) (.a)]) (.a)) .a)) [] .a (by kernel_rfl)
theorem whole_ok1(n:Nat)(b:List Int):Z6 prog C1 (Z3 prog C1 (n+9)) (n+9) 54 [.isl 1 (bys b)] ⟨0,[]⟩=some (.sl 1 0 0 64 none,⟨1,[(0,.row 5 1 (bys (blk b)))]⟩):=by
 have f1:Yj true 1 (Zo (bys b))=true:=by simp
 have f2:64<=64:=by omega
 have f3:LV.int i64 (↑(min (List.length (Zo (bys b))) 64):Int)=LV.int i64 (↑(min (List.length b) 64):Int):=by simp
 have f4:LObj.row 5 1 (Zr (List.replicate 64 (LV.int IntKind.u8 0)) 0 (List.take (min (List.length (Zo (bys b))) 64) (Zo (bys b))))=LObj.row 5 1 (bys (Ze (List.replicate 64 0) 0 (List.take (min (List.length b) 64) b))):=by simp
 exact drn (fun h=>ai (f1)<|ai (f2)<|ai (f3)<|ai (congrArg some f4)<|h) (.s (.a) (.s (.a) (.s (.r [.a,.a,.x 0 (vOf f4) (.v (vOf f3) (.q))]) (.a)))) [] .a (by kernel_rfl)
theorem whole_nil1(n:Nat):Z6 prog C1 (Z3 prog C1 (n+9)) (n+9) 54 [.nils] ⟨0,[]⟩=some (.sl 1 0 0 64 none,⟨1,[(0,.row 5 1 (bys (blk [])))]⟩):=by
 exact drn (fun h=>h) (.a) [] .a (by kernel_rfl)
end Go.Mac
namespace Go.Proofs.YtddbfjgodbfaoaaGreatDoor.T
open Go Go.Eng Go.Mac Go.Proofs.YtddbfjgodbfaoaaGreatDoor.Ty
theorem extC1:ExtSound Tryz.prog C1:=fun f F h=>by simp [C1] at h
theorem mixed:Tryz.prog.follows .mixedOrders=true:=by kernel_rfl
def R1:Inst:=⟨id,id,fun _=>false⟩
theorem Meets.wkpost{P:Program}{f:FuncId}{as_:List AV}{s:Hp}{K:AV->Hp->Prop}(h:Meets P f as_ s (fun r t=>∃ r' t',Wk r r'/\HpWk t t'/\K r' t')):Meets P f as_ s K:=
 Meets.sw (h.mono fun r t ⟨r',t',h1,h2,h3⟩=>⟨r',t',SW.wk (fun _=>h1) h2,h3⟩)
theorem meets_run{n:Nat}{f:FuncId}{as_:List LV}{v:LV}{st:St}(h:Z6 Tryz.prog C1 (Z3 Tryz.prog C1 n) n f as_ ⟨0,[]⟩=some (v,st))(hr:Zc as_=[]){K:AV->Hp->Prop}(hk:∀ R t,SRel Tryz.prog R st t->(∀ b∈Z8 v,b<st.next)->K (Z0 R true v) t):Meets Tryz.prog f (Z4 R1 true as_) [] K:=by
 have:=lrun_sound extC1 mixed (lcall_sound extC1 mixed n) h R1 [] (SRel.empty _ _) (by rw [hr];simp)
 refine Meets.wkpost (this.mono ?_);rintro r t ⟨R',s',_,_,g3,g4,g5,g6⟩;exact ⟨_,s',g3,g5,hk R' s' g6 g4⟩
theorem right_av(at_:Int)(h:0<=at_/\at_<=1073741824)(s:Hp)(K:AV->Hp->Prop)(hk:K (.v .nilIface) s):Meets Tryz.prog 63 [.v (.int .i64 at_)] s K:=by
 refine Meets.alone ?_
 have:=meets_run (K:=fun r t=>K r s) (right_ok1 0 at_ h.1 h.2) (by simp [Zc,Z8]) (fun R t ht _=>by simpa [Z0] using hk)
 simpa [Z4,Z0] using this
theorem right_av_no(at_:Int)(h:at_<0∨1073741824<at_)(s:Hp)(K:AV->Hp->Prop)(hk:K (.ifc 155 (.agg [.v (.string ⟨#[98,108,111,99,107]⟩),.v (.int .i64 at_),.v (.iface 40 (.int .i64 2))])) s):Meets Tryz.prog 63 [.v (.int .i64 at_)] s K:=by
 refine Meets.alone ?_
 have:=meets_run (K:=fun r t=>K r s) (right_no1 0 at_ h) (by simp [Zc,Z8]) (fun R t ht _=>by simpa [Z0,Z4,mkIfc] using hk)
 simpa [Z4,Z0] using this
def cel(b:List Int):List AV:=b.map fun n=>.v (.int .u8 n)
theorem cel_bys(R:Inst)(l:Bool)(b:List Int):Z4 R l (bys b)=cel b:=by
 rw [Zy];unfold bys cel;rw [List.map_map];apply List.map_congr_left;intro x _
 cases l <;> simp [Z0]
theorem cel_flat(b:List Int):(cel b).flatMap cellsOf=cel b:=by
 unfold cel
 induction b with
 | nil=>rfl
 | cons x b ih=>rw [List.map_cons,List.flatMap_cons,ih];rfl
theorem whole_end{b:List Int}{R:Inst}{t:Hp}(ht:SRel Tryz.prog R ⟨1,[(0,.row 5 1 (bys (blk b)))]⟩ t):
  ∃ q cap,64<=cap/\cap<=maxLen/\Z0 R true (.sl 1 0 0 64 none)=.v (.slice (some ⟨q,0,none⟩) 64 cap)/\t=[(q,.cells 5 (cel (blk b)) (cap*1))]:=by
 have he:=ht.ents
 cases he with
 | cons ho hrest =>
  cases hrest
  generalize hx:bys (blk b)=xs at ho;have hxl:xs.length=64:=by rw [<- hx];simp
  cases ho with
  | rowNil _ _ hz=>simp at hxl
  | row _ _ _ hz ok =>
   subst hx;refine ⟨R.ρ 0,R.κ 0,?_,ok.cap,?_,?_⟩
   ·have:=ok.le;rw [hxl] at this;exact this
   ·simp [Z0,Y8,hz]
   ·rw [cel_bys,cel_flat];rfl
theorem whole_av(b:List Int)(s:Hp)(K:AV->Hp->Prop)(hk:∀ q cap,q∉s.keys->64<=cap->cap<=maxLen->K (.v (.slice (some ⟨q,0,none⟩) 64 cap)) ((q,.cells 5 (cel (blk b)) (cap*1))::s)):
  Meets Tryz.prog 54 [.sl 1 (cel b)] s K:=by
 have h0:Meets Tryz.prog 54 [.sl 1 (cel b)] [] (fun r t=>∃ q cap,64<=cap/\cap<=maxLen/\r=.v (.slice (some ⟨q,0,none⟩) 64 cap)/\t=[(q,.cells 5 (cel (blk b)) (cap*1))]):=by
  have:=meets_run (K:=fun r t=>∃ q cap,64<=cap/\cap<=maxLen/\r=.v (.slice (some ⟨q,0,none⟩) 64 cap)/\t=[(q,.cells 5 (cel (blk b)) (cap*1))]) (whole_ok1 0 b) (by simp [Zc,Z8]) (fun R t ht _=>by
   obtain ⟨q,cap,h1,h2,h3,h4⟩:=whole_end ht;exact ⟨q,cap,h1,h2,h3,h4⟩)
  simpa [Z4,Z0,cel_bys] using this
 refine Meets.kn (Meets.frame (s:=[]) (t:=s) (h0.mono ?_));rintro r t ⟨q,cap,h1,h2,rfl,rfl⟩;intro hn;exact hk q cap (List.nodup_cons.1 hn).1 h1 h2
theorem whole_av_nil(s:Hp)(K:AV->Hp->Prop)(hk:∀ q cap,q∉s.keys->64<=cap->cap<=maxLen->K (.v (.slice (some ⟨q,0,none⟩) 64 cap)) ((q,.cells 5 (cel (blk [])) (cap*1))::s)):
  Meets Tryz.prog 54 [.v (.slice none 0 0)] s K:=by
 have h0:Meets Tryz.prog 54 [.v (.slice none 0 0)] [] (fun r t=>∃ q cap,64<=cap/\cap<=maxLen/\r=.v (.slice (some ⟨q,0,none⟩) 64 cap)/\t=[(q,.cells 5 (cel (blk [])) (cap*1))]):=by
  have:=meets_run (K:=fun r t=>∃ q cap,64<=cap/\cap<=maxLen/\r=.v (.slice (some ⟨q,0,none⟩) 64 cap)/\t=[(q,.cells 5 (cel (blk [])) (cap*1))]) (whole_nil1 0) (by simp [Zc,Z8]) (fun R t ht _=>by
   obtain ⟨q,cap,h1,h2,h3,h4⟩:=whole_end ht;exact ⟨q,cap,h1,h2,h3,h4⟩)
  simpa [Z4,Z0] using this
 refine Meets.kn (Meets.frame (s:=[]) (t:=s) (h0.mono ?_));rintro r t ⟨q,cap,h1,h2,rfl,rfl⟩;intro hn;exact hk q cap (List.nodup_cons.1 hn).1 h1 h2
def optC:Option (List Int)->AV
 | none=>.v (.slice none 0 0)
 | some b=>.sl 1 (cel b)
theorem optC_one(w:Option (List Int)):(optC w).one=true:=by cases w <;> rfl
theorem whole_any(o:Option (List Int))(s:Hp)(K:AV->Hp->Prop)(hk:∀ q cap,q∉s.keys->64<=cap->cap<=maxLen->K (.v (.slice (some ⟨q,0,none⟩) 64 cap)) ((q,.cells 5 (cel (blk (o.getD []))) (cap*1))::s)):
  Meets Tryz.prog 54 [optC o] s K:=by
 cases o with
 | none=>exact whole_av_nil s K hk
 | some b=>exact whole_av b s K hk
def pC(w:Int × Option (List Int)):AV:=.agg [.v (.int .i64 w.1),optC w.2]
def lastC(at_:Int):List (Int × Option (List Int))->Option (Option (List Int))
 | []=>none
 | (a,b)::l=>match lastC at_ l with
  | some x=>some x
  | none=>if a=at_ then some b else none
theorem lastC_take{at_:Int}:∀ {ps:List (Int × Option (List Int))} {i:Nat},(∀ j (h:j<ps.length),i<j->ps[j].1≠at_)->(h:i<ps.length)->ps[i].1=at_->lastC at_ ps=some ps[i].2
 | [],i,_,h,_=>by simp at h
 | (a,b)::l,0,hn,h,he=>by
  have hl:∀ l:List (Int × Option (List Int)),(∀ x∈l,x.1≠at_)->lastC at_ l=none:=by
   intro l
   induction l with
   | nil=>intro _;rfl
   | cons x l ih =>
    intro hx;unfold lastC;rw [ih (fun y hy=>hx y (List.mem_cons_of_mem _ hy)),if_neg (hx x List.mem_cons_self)]
  have:lastC at_ l=none:=hl l (fun x hx=>by
   obtain ⟨j,hj,rfl⟩:=List.mem_iff_getElem.1 hx;exact hn (j+1) (by simpa using hj) (by omega))
  have he':a=at_:=he;unfold lastC;rw [this,if_pos he']
  rfl
 | (a,b)::l,i+1,hn,h,he=>by
  have:=lastC_take (ps:=l) (i:=i) (fun j hj hij=>by have:=hn (j+1) (by simpa using hj) (by omega);simpa using this) (by simpa using h) (by simpa using he)
  unfold lastC;rw [this]
  rfl
theorem lastC_none{at_:Int}:∀ {l:List (Int × Option (List Int))},(∀ x∈l,x.1≠at_)->lastC at_ l=none
 | [],_=>rfl
 | x::l,hx=>by
  unfold lastC;rw [lastC_none (fun y hy=>hx y (List.mem_cons_of_mem _ hy)),if_neg (hx x List.mem_cons_self)]
def readC(at_:Int)(es:List (Int × List Int))(ps:List (Int × Option (List Int))):List Int:=
 match lastC at_ ps with
 | some o=>blk (o.getD [])
 | none=>blk ((Pl.pget es at_).getD [])
def mC(es:List (Int × List Int)):List (Int × AV):=Pl.gmap (fun b=>.sl 1 (cel b)) es
end Go.Proofs.YtddbfjgodbfaoaaGreatDoor.T
namespace Go.Proofs.YtddbfjgodbfaoaaGreatDoor.T
open Go Go.Eng Go.Proofs.YtddbfjgodbfaoaaGreatDoor.Ty
theorem back_av(xs:List AV)(s:Hp)(K:AV->Hp->Prop)(hk:∀ p,p∉s.keys->K (.v (.func (.func 102) #[] #[.pointer (some ⟨p,0,none⟩)])) ((p,.cells 95 [.sl 2 xs] 1)::s)):
  Meets Tryz.prog 83 [.sl 2 xs] s K:=by
 have h0:Meets Tryz.prog 83 [.sl 2 xs] [] (fun r t=>∃ p,r=.v (.func (.func 102) #[] #[.pointer (some ⟨p,0,none⟩)])/\t=[(p,.cells 95 [.sl 2 xs] 1)]):=by
  obtain ⟨K',hK'⟩:∃ K':AV->Hp->Prop,K'=(fun r t=>∃ p,r=.v (.func (.func 102) #[] #[.pointer (some ⟨p,0,none⟩)])/\t=[(p,.cells 95 [.sl 2 xs] 1)]):=⟨_,rfl⟩
  rw [<- hK'];refine Meets.body Tryz.func83 rfl rfl (by simp [Tryz.ntmps83]) ?_
  repeat' (first | refine AW.seq ?_ | ((first | refine AW.reg (by rfl) ?_ | refine AW.skip ?_ | refine AW.ret ?_ | refine AW.exit ?_);simp only [undef,Y5,aop,ev,ofValue,Zd,Zv,Yh,List.getD_cons_zero,cells_sl,List.length_cons,List.length_nil,List.all_cons,List.all_nil,one_sl,Bool.and_self,true_and,Nat.zero_add,abox,Zl,forall_const,Tryz.results83]) | refine AW.block ?_ | with_reducible refine AW.condT rfl ?_ | with_reducible refine AW.condF rfl ?_)
  intro p
  repeat' (first | refine AW.seq ?_ | ((first | refine AW.reg (by rfl) ?_ | refine AW.skip ?_ | refine AW.ret ?_ | refine AW.exit ?_);simp only [Y5,aop,ev,Zd,Zv,APost,ares,Y9,Za,Nat.reduceEqDiff,↓reduceIte,List.map_cons,List.map_nil,amakeFunc,Yt,Option.map_some]) | refine AW.block ?_ | with_reducible refine AW.condT rfl ?_ | with_reducible refine AW.condF rfl ?_)
  rw [hK'];exact ⟨p,rfl,rfl⟩
 refine Meets.kn (Meets.frame (s:=[]) (t:=s) (h0.mono ?_));rintro r t ⟨p,rfl,rfl⟩;intro hn;exact hk p (List.nodup_cons.1 hn).1
theorem read_av(rm at_:Int)(h:0<=at_/\at_<=1073741824)(es:List (Int × List Int))(ps:List (Int × Option (List Int)))(hlen:ps.length<=1048576):
  Meets Tryz.prog 47 [.rp (.agg [.v (.int .i64 rm),.mp .i64 (mC es),.sl 2 (ps.map pC)]),.v (.int .i64 at_)] [] (fun r t=>∃ q cap t',64<=cap/\cap<=maxLen/\r=.tup [.v (.slice (some ⟨q,0,none⟩) 64 cap),.v .nilIface]/\t'=[(q,.cells 5 (cel (readC at_ es ps)) (cap*1))]/\t'.Sublist t):=by
 obtain ⟨K',hK'⟩:∃ K':AV->Hp->Prop,K'=(fun r t=>∃ q cap t',64<=cap/\cap<=maxLen/\r=.tup [.v (.slice (some ⟨q,0,none⟩) 64 cap),.v .nilIface]/\t'=[(q,.cells 5 (cel (readC at_ es ps)) (cap*1))]/\t'.Sublist t):=⟨_,rfl⟩
 rw [<- hK'];refine Meets.body Tryz.func47 rfl rfl (by simp [Tryz.ntmps47]) ?_
 repeat' (first | refine AW.seq ?_ | ((first | refine AW.reg (by rfl) ?_ | refine AW.skip ?_ | refine AW.ret ?_ | refine AW.exit ?_);simp only [undef,Y5,aop,ev,Zd,Zv,Yh,List.getD_cons_zero,List.getD_cons_succ,Value.cells,cells_v,List.map_cons,List.map_nil,List.length_cons,List.length_nil,List.all_cons,List.all_nil,one_v,Value.oneCell',Bool.and_self,true_and,and_true,Nat.zero_add,abox,aalloc,ne_eq,List.size_toArray,Zl,Zu,and_imp,forall_const,zero_37,zero_27,Tryz.results47]) | refine AW.block ?_ | with_reducible refine AW.condT rfl ?_ | with_reducible refine AW.condF rfl ?_)
 intro b3 b4 h43 b5 h54 h53
 repeat' (first | refine AW.seq ?_ | ((first | refine AW.reg (by rfl) ?_ | refine AW.skip ?_ | refine AW.ret ?_ | refine AW.exit ?_);simp only [Y5,aop,Yv,ev,Zd,Zv,Za,Nat.reduceEqDiff,↓reduceIte,List.map_cons,List.map_nil,List.nil_append,List.append_nil,List.getElem?_cons_zero,Yu,Yk,X0,Zj,agg_3,h43,h53]) | refine AW.block ?_ | with_reducible refine AW.condT rfl ?_ | with_reducible refine AW.condF rfl ?_)
 refine right_av at_ h _ _ ?_
 skip
 repeat' (first | refine AW.seq ?_ | ((first | refine AW.reg (by rfl) ?_ | refine AW.skip ?_ | refine AW.ret ?_ | refine AW.exit ?_);simp only [undef,Y5,aop,Yv,ev,ofValue,Zd,Zv,Za,Yh,↓reduceIte,List.getD_cons_zero,List.map_cons,List.map_nil,List.nil_append,List.append_nil,List.getElem?_cons_zero,List.getElem?_cons_succ,true_and,Yu,Yk,X0,X5,anil,W0,Yf,rpart,reduceCtorEq,Bool.not_true,Xj,field_97_2,agg_95,rpart]) | refine AW.block ?_ | with_reducible refine AW.condT rfl ?_ | with_reducible refine AW.condF rfl ?_)
 refine ⟨rfl,?_⟩;refine back_av _ _ _ ?_
 intro p hp;simp only [Zu,Zl,and_true] at hp;obtain ⟨hp5,hp4,hp3⟩:=hp
 skip
 repeat' (first | refine AW.seq ?_ | refine AW.block ?_ | with_reducible refine AW.condT rfl ?_ | with_reducible refine AW.condF rfl ?_)
 refine AW.gen fun e hE=>?_
 have e0:e 0=.rp (.agg [.v (.int .i64 rm),.mp .i64 (mC es),.sl 2 (ps.map pC)]):=hE 0;have e3:e 3=.v (.pointer (some ⟨b3,0,none⟩)):=hE 3;have e4:e 4=.v (.pointer (some ⟨b4,0,none⟩)):=hE 4;have e5:e 5=.v (.pointer (some ⟨b5,0,none⟩)):=hE 5;have e18:e 18=.v (.func (.func 102) #[] #[.pointer (some ⟨p,0,none⟩)]):=hE 18
 clear hE
 refine AW.rangeFunc 102 #[] #[.pointer (some ⟨p,0,none⟩)] e18 ⟨_,_,Tryz.func102,rfl,by kernel_rfl⟩ ?_
 intro l rec hl hr1 hr2 hr3 hr4 hr5;simp only [Zu,Zl,and_true] at hl;obtain ⟨hlp,hl5,hl4,hl3⟩:=hl;refine Meets.nodup fun hnd=>?_
 generalize hQ:RfEnd _ _ _ _ _ _=K2
 show Meets _ _ [.v (.func (.yield l) #[] #[]),.v (.pointer (some ⟨p,0,none⟩))] _ _
 refine Meets.body Tryz.func102 rfl rfl (by simp [Tryz.ntmps102]) ?_
 repeat' (first | refine AW.seq ?_ | ((first | refine AW.reg (by rfl) ?_ | refine AW.skip ?_ | refine AW.ret ?_ | refine AW.exit ?_);simp only [undef,Y5,aop,Yv,ev,ofValue,Zd,Zv,Za,Yh,↓reduceIte,List.getD_cons_zero,List.getD_cons_succ,List.getElem?_cons_zero,true_and,Yu,Yk,X0,X5,aint,alen,Zj,List.length_map,agg_95,elem_95,Tryz.results102,hlp]) | refine AW.block ?_ | with_reducible refine AW.condT rfl ?_ | with_reducible refine AW.condF rfl ?_)
 have hlen2:IntKind.i64.wrap ((ps.length:Int)-1)=(ps.length:Int)-1:=wrap_i64 (by omega) (by omega)
 obtain ⟨S0,hS0⟩:∃ S0:Hp,S0=[(p,.cells 95 [.sl 2 (ps.map pC)] 1),(b5,.cells 27 [.v .nilIface] 1),(b4,.cells 37 [.v (.slice none 0 0)] 1),(b3,.cells 3 [.v (.int .i64 at_)] 1)]:=⟨_,rfl⟩;obtain ⟨H,hH⟩:∃ H:Nat->Env->Hp->Prop,H=fun mm e' st=>∃ (i:Nat),i<=ps.length/\st=(l,.lp rec Tryz.f47.ntmps e)::S0/\mm=i/\e' 0=.v (.func (.yield l) #[] #[])/\e' 1=.v (.pointer (some ⟨p,0,none⟩))/\e' 3=.v (.int .i64 ((i:Int)-1)) /\
   (∀ j (h:j<ps.length),i<=j->ps[j].1≠at_):=⟨_,rfl⟩
 refine (AW.loop H ps.length ?_ ?_)
 ·rw [hH,hS0]
  exact ⟨ps.length,Nat.le_refl _,rfl,rfl,rfl,rfl,by simp only [Za];rw [if_pos trivial,hlen2],fun j h hj=>absurd hj (by omega)⟩
 intro mm e' st hst;rw [hH] at hst;obtain ⟨i,hi,rfl,rfl,f0,f1,f3,hno⟩:=hst
 cases mm with
 | zero =>
  have hge:decide (0<=((0:Nat):Int)-1)=false:=by simp
  repeat' (first | refine AW.seq ?_ | ((first | refine AW.reg (by rfl) ?_ | refine AW.skip ?_ | refine AW.ret ?_ | refine AW.exit ?_);simp only [Y5,aop,ev,ofValue,Zd,Zv,Xm,APost,ares,Za,↓reduceIte,true_and,X5,aint,Int.cast_ofNat_Int,Int.reduceLE,Int.reduceSub,Int.reduceNeg,decide_false,f3]) | refine AW.block ?_ | with_reducible refine AW.condT rfl ?_ | with_reducible refine AW.condF rfl ?_)
  rw [<- hQ];refine ⟨S0,rec,rfl,by rw [hr1];simp,?_⟩
  rw [hr2];simp only [Xm,Zv];refine AW.seq ?_
  refine AW.drw 5 rfl rfl rfl ?_
  rw [hS0];simp only [undef,Y5,aop,Yv,ev,ofValue,Zd,put_none,Zv,Za,Nat.reduceEqDiff,↓reduceIte,cells_v,splice,List.map_cons,List.map_nil,List.length_cons,List.length_nil,List.take_succ_cons,List.take_zero,List.drop_succ_cons,List.drop_zero,List.nil_append,List.cons_append,List.append_nil,List.getElem?_cons_zero,List.getElem?_cons_succ,List.all_cons,List.all_nil,one_v,Value.oneCell',Bool.and_self,true_and,and_true,Nat.zero_add,Yu,Yk,X0,gndL,astore,Yf,rpart,alookup,Option.map_some,Zj,Zl,hp_get_out,Bool.false_eq_true,qops,qop,exists_eq_left',and_assoc,exists_and_left,agg_3,zero_37,agg_37,agg_27,field_97_1,agg_94,map_94,e0,e3,e4,e5,rpart,h43,h53,hp3];refine ⟨rfl,?_⟩;have hmg:Eng.mget (mC es) at_=(Pl.pget es at_).map (fun b=>.sl 1 (cel b)):=Pl.mget_gmap _ _ _
  have hlast:lastC at_ ps=none:=lastC_none (fun x hx=>by
   obtain ⟨j,hj,rfl⟩:=List.mem_iff_getElem.1 hx;exact hno j hj (Nat.zero_le _))
  have fin:∀ (b:List Int),(Pl.pget es at_).getD []=b->∀ (q cap:Nat) (t:Hp),64<=cap->cap<=maxLen->[(q,AObj.cells 5 (cel (Mac.blk b)) (cap*1))].Sublist t->K' (.tup [.v (.slice (some ⟨q,0,none⟩) 64 cap),.v .nilIface]) t:=by
   intro b hb q cap t h1 h2 h3;rw [hK'];refine ⟨q,cap,_,h1,h2,rfl,rfl,?_⟩;unfold readC;rw [hlast];simp only [hb];exact h3
  rw [hmg]
  cases hpg:Pl.pget es at_ with
  | none =>
   simp only [Option.map_none];refine whole_av_nil _ _ ?_
   intro q cap hq h64 hmx;simp only [Zu,Zl,and_true] at hq;obtain ⟨hqp,hq5,hq4,hq3⟩:=hq
   try simp only [↓reduceIte,cells_v,List.length_cons,List.length_nil,List.drop_succ_cons,List.drop_nil,List.append_nil,List.all_cons,List.all_nil,one_v,Value.oneCell',Bool.and_self,true_and,and_true,Nat.zero_add,Nat.le_refl,ne_eq,not_false_eq_true,Zj,Zl,Zu,Yp,Y7,Nat.mul_one,h43,h54,h53,hp5,hp4,hq5,hq4]
   repeat' (first | refine AW.seq ?_ | ((first | refine AW.reg (by rfl) ?_ | refine AW.skip ?_ | refine AW.ret ?_ | refine AW.exit ?_);simp only [APost,ares,Y9,Za,Nat.reduceEqDiff,↓reduceIte,List.getElem?_cons_zero,Yu,Zj,agg_37,agg_27,e4,e5,h54,hp5,hp4,hq5,hq4]) | refine AW.block ?_ | with_reducible refine AW.condT rfl ?_ | with_reducible refine AW.condF rfl ?_)
   refine fin [] (by rw [hpg];rfl) q cap _ h64 hmx ?_
   rw [Nat.mul_one];exact .cons_cons _ (List.nil_sublist _)
  | some bb =>
   simp only [Option.map_some];refine whole_av bb _ _ ?_
   intro q cap hq h64 hmx;simp only [Zu,Zl,and_true] at hq;obtain ⟨hqp,hq5,hq4,hq3⟩:=hq
   try simp only [↓reduceIte,cells_v,List.length_cons,List.length_nil,List.drop_succ_cons,List.drop_nil,List.append_nil,List.all_cons,List.all_nil,one_v,Value.oneCell',Bool.and_self,true_and,and_true,Nat.zero_add,Nat.le_refl,ne_eq,not_false_eq_true,Zj,Zl,Zu,Yp,Y7,Nat.mul_one,h43,h54,h53,hp5,hp4,hq5,hq4]
   repeat' (first | refine AW.seq ?_ | ((first | refine AW.reg (by rfl) ?_ | refine AW.skip ?_ | refine AW.ret ?_ | refine AW.exit ?_);simp only [APost,ares,Y9,Za,Nat.reduceEqDiff,↓reduceIte,List.getElem?_cons_zero,Yu,Zj,agg_37,agg_27,e4,e5,h54,hp5,hp4,hq5,hq4]) | refine AW.block ?_ | with_reducible refine AW.condT rfl ?_ | with_reducible refine AW.condF rfl ?_)
   refine fin bb (by rw [hpg];rfl) q cap _ h64 hmx ?_
   rw [Nat.mul_one];exact .cons_cons _ (List.nil_sublist _)
 | succ i =>
  have hge:decide (0<=((i+1:Nat):Int)-1)=true:=by simp
  refine AW.seq ?_
  refine AW.seq ?_
  refine AW.reg (by rfl) ?_
  simp only [Y5,aop,ev,ofValue,Zd,Zv,Za,↓reduceIte,true_and,X5,aint,f3];refine AW.condT (by simp only [ev,Za,if_true];rw [hge]) ?_
  refine AW.skip ?_
  simp only [Zv];refine AW.seq ?_
  refine AW.block ?_
  refine AW.seq ?_
  refine AW.yield 6 (by rfl) ?_
  have hlt:i<ps.length:=by omega
  have hidx:(((i+1:Nat):Int)-1).toNat=i:=by omega
  have hat:(ps.map pC).getD i default=.agg [.v (.int .i64 ps[i].1),optC ps[i].2]:=by rw [List.getD_eq_getElem?_getD,List.getElem?_map,List.getElem?_eq_getElem hlt];rfl
  rw [hS0];simp only [ayield,List.take,List.drop,Y5,aop,ev,Zd,Zv,Za,Nat.reduceEqDiff,↓reduceIte,List.map_cons,List.map_nil,List.length_cons,List.length_nil,List.getElem?_cons_zero,List.getElem?_cons_succ,true_and,Nat.reduceAdd,Nat.zero_add,Yu,Yk,X0,aun,aindexAddr,Int.reduceNeg,Zj,reduceCtorEq,List.length_map,and_assoc,agg_95,elem_95,agg_116,f0,f1,f3,hlp,hidx,hat];refine ⟨by omega,by omega,l,rfl,?_⟩
  refine YieldS.of hr1 hr2 (by rw [hr3];rfl) (by rw [hr3];simp [Tryz.ntmps47]) ?_
  rw [hr4,hr3,hr5];simp only [putAll]
  repeat' (first | refine AW.seq ?_ | ((first | refine AW.reg (by rfl) ?_ | refine AW.skip ?_ | refine AW.ret ?_ | refine AW.exit ?_);simp only [undef,Y5,aop,ev,Zd,put_none,Za,Nat.reduceEqDiff,↓reduceIte,Value.cells,cells_agg,splice,List.map_cons,List.map_nil,List.length_cons,List.length_nil,List.take_zero,List.drop_succ_cons,List.drop_nil,List.nil_append,List.append_nil,List.all_cons,List.all_nil,one_v,Value.oneCell',Bool.and_self,true_and,and_true,Nat.reduceAdd,Nat.zero_add,Nat.le_refl,astore,aalloc,ne_eq,List.size_toArray,Int.reduceNeg,Option.map_some,Zj,Zl,Zu,Yp,and_imp,Y7,zero_116,agg_116,optC_one]) | refine AW.block ?_ | with_reducible refine AW.condT rfl ?_ | with_reducible refine AW.condF rfl ?_)
  intro b8 h8p h85 h84 h83
  by_cases he:ps[i].1=at_
  ·have hd:(ps[i].1==at_)=true:=by simpa using he
   have hd2:decide (ps[i].1=at_)=true:=by simpa using he
   repeat' (first | refine AW.seq ?_ | ((first | refine AW.reg (by rfl) ?_ | refine AW.skip ?_ | refine AW.ret ?_ | refine AW.exit ?_);simp only [undef,Y5,aop,Yv,ev,ofValue,Zd,put_none,Zv,Za,Nat.reduceEqDiff,↓reduceIte,cells_v,splice,List.map_cons,List.map_nil,List.length_cons,List.length_nil,List.take_zero,List.nil_append,List.cons_append,List.append_nil,List.getElem?_cons_zero,List.getElem?_cons_succ,List.all_cons,List.all_nil,one_v,Value.oneCell',Bool.and_self,true_and,Nat.zero_add,Nat.add_zero,Yu,Yk,X0,astore,X5,aint,Yf,Int.reduceNeg,Option.map_some,Zj,agg_3,agg_37,agg_27,field_116_0,field_116_1,e3,e4,e5,h43,h53,hp3,h83,Ne.symm h8p,Ne.symm h85,Ne.symm h84,Ne.symm h83,hd2]) | refine AW.block ?_ | with_reducible refine AW.condT rfl ?_ | with_reducible refine AW.condF rfl ?_)
   refine whole_any _ _ _ ?_
   intro q cap hq h64 hmx;simp only [Zu,Zl,and_true] at hq;obtain ⟨hq8,hqp,hq5,hq4,hq3⟩:=hq
   try simp only [↓reduceIte,cells_v,List.length_cons,List.length_nil,List.drop_succ_cons,List.drop_nil,List.append_nil,List.all_cons,List.all_nil,one_v,Value.oneCell',Bool.and_self,true_and,and_true,Nat.zero_add,Nat.le_refl,ne_eq,not_false_eq_true,Int.reduceNeg,Zj,Zl,Zu,Yp,Y7,Nat.mul_one,h43,h54,h53,hp5,hp4,h85,h84,hq5,hq4]
   repeat' (first | refine AW.seq ?_ | ((first | refine AW.reg (by rfl) ?_ | refine AW.skip ?_ | refine AW.ret ?_ | refine AW.exit ?_);simp only [Xm,Int.reduceNeg]) | refine AW.block ?_ | with_reducible refine AW.condT rfl ?_ | with_reducible refine AW.condF rfl ?_)
   simp only [YEnd]
   try simp only [Bool.not_false]
   repeat' (first | refine AW.seq ?_ | ((first | refine AW.reg (by rfl) ?_ | refine AW.skip ?_ | refine AW.ret ?_ | refine AW.exit ?_);simp only [Zv,Xm,APost,ares]) | refine AW.block ?_ | with_reducible refine AW.condT rfl ?_ | with_reducible refine AW.condF rfl ?_)
   rw [<- hQ];refine ⟨_,_,rfl,by simp,?_⟩
   simp only
   repeat' (first | refine AW.seq ?_ | ((first | refine AW.reg (by rfl) ?_ | refine AW.skip ?_ | refine AW.ret ?_ | refine AW.exit ?_);simp only [Zv,Xm,APost,ares,Y9,↓reduceIte,List.getElem?_cons_zero,Yu,Zj,agg_37,agg_27,e4,e5,h54,hp5,hp4,h85,h84,hq5,hq4]) | refine AW.block ?_ | with_reducible refine AW.condT rfl ?_ | with_reducible refine AW.condF rfl ?_)
   rw [hK'];refine ⟨q,cap,_,h64,hmx,rfl,rfl,?_⟩;have:readC at_ es ps=Mac.blk (ps[i].2.getD []):=by
    unfold readC;rw [lastC_take (fun j hj hij=>hno j hj (by omega)) hlt he]
   rw [this,Nat.mul_one];exact .cons_cons _ (List.nil_sublist _)
  ·have hd:(ps[i].1==at_)=false:=by simpa using he
   have hd2:decide (ps[i].1=at_)=false:=by simpa using he
   repeat' (first | refine AW.seq ?_ | ((first | refine AW.reg (by rfl) ?_ | refine AW.skip ?_ | refine AW.ret ?_ | refine AW.exit ?_);simp only [Y5,aop,ev,Zd,Zv,Xm,Za,Nat.reduceEqDiff,↓reduceIte,List.getElem?_cons_zero,true_and,Nat.add_zero,Yu,Yk,X0,X5,aint,Yf,Int.reduceNeg,Zj,agg_3,field_116_0,e3,h43,h53,hp3,h83,Ne.symm h8p,Ne.symm h85,Ne.symm h84,Ne.symm h83,hd2]) | refine AW.block ?_ | with_reducible refine AW.condT rfl ?_ | with_reducible refine AW.condF rfl ?_)
   simp only [YEnd]
   try simp only [Bool.not_true]
   repeat' (first | refine AW.seq ?_ | ((first | refine AW.reg (by rfl) ?_ | refine AW.skip ?_ | refine AW.ret ?_ | refine AW.exit ?_);simp only [Y5,aop,ev,ofValue,Zd,Zv,Xm,Za,Nat.reduceEqDiff,↓reduceIte,true_and,X5,aint,f3]) | refine AW.block ?_ | with_reducible refine AW.condT rfl ?_ | with_reducible refine AW.condF rfl ?_)
   rw [hH];refine ⟨i,_,by omega,?_,?_,i,by omega,by rw [hS0],rfl,?_,?_,?_,fun j hj hij=>?_⟩
   ·intro x hx
    simp only [List.mem_cons,List.not_mem_nil,or_false] at hx ⊢
    rcases hx with rfl | rfl | rfl | rfl | rfl <;> simp
   ·exact hnd
   ·simp [Za,f0]
   ·simp [Za,f1]
   ·simp only [Za,if_true]
    have:IntKind.i64.wrap (((i+1:Nat):Int)-1-1)=(i:Int)-1:=by rw [wrap_i64 (by omega) (by omega)];omega
    rw [this]
   ·rcases Nat.lt_or_ge i j with h1 | h1
    ·exact hno j hj (by omega)
    ·have:j=i:=by omega
     subst this;exact he
theorem read_err(rm at_:Int)(h:at_<0∨1073741824<at_)(x y:AV)(hy:y.isAgg=false):
  Meets Tryz.prog 47 [.rp (.agg [.v (.int .i64 rm),x,y]),.v (.int .i64 at_)] [] (fun r t=>r=.tup [.v (.slice none 0 0),.ifc 155 (.agg [.v (.string ⟨#[98,108,111,99,107]⟩),.v (.int .i64 at_),.v (.iface 40 (.int .i64 2))])]):=by
 obtain ⟨K',hK'⟩:∃ K':AV->Hp->Prop,K'=(fun r t=>r=.tup [.v (.slice none 0 0),.ifc 155 (.agg [.v (.string ⟨#[98,108,111,99,107]⟩),.v (.int .i64 at_),.v (.iface 40 (.int .i64 2))])]):=⟨_,rfl⟩
 rw [<- hK'];refine Meets.body Tryz.func47 rfl rfl (by simp [Tryz.ntmps47]) ?_
 repeat' (first | refine AW.seq ?_ | ((first | refine AW.reg (by rfl) ?_ | refine AW.skip ?_ | refine AW.ret ?_ | refine AW.exit ?_);simp only [undef,Y5,aop,ev,Zd,Zv,Yh,List.getD_cons_zero,List.getD_cons_succ,Value.cells,cells_v,List.map_cons,List.map_nil,List.length_cons,List.length_nil,List.all_cons,List.all_nil,one_v,Value.oneCell',Bool.and_self,true_and,and_true,Nat.zero_add,abox,aalloc,ne_eq,List.size_toArray,Zl,Zu,and_imp,forall_const,zero_37,zero_27,Tryz.results47]) | refine AW.block ?_ | with_reducible refine AW.condT rfl ?_ | with_reducible refine AW.condF rfl ?_)
 intro b3 b4 h43 b5 h54 h53
 repeat' (first | refine AW.seq ?_ | ((first | refine AW.reg (by rfl) ?_ | refine AW.skip ?_ | refine AW.ret ?_ | refine AW.exit ?_);simp only [Y5,aop,Yv,ev,Zd,Zv,Za,Nat.reduceEqDiff,↓reduceIte,List.map_cons,List.map_nil,List.nil_append,List.append_nil,List.getElem?_cons_zero,Yu,Yk,X0,Zj,agg_3,h43,h53]) | refine AW.block ?_ | with_reducible refine AW.condT rfl ?_ | with_reducible refine AW.condF rfl ?_)
 refine right_av_no at_ h _ _ ?_
 skip
 repeat' (first | refine AW.seq ?_ | ((first | refine AW.reg (by rfl) ?_ | refine AW.skip ?_ | refine AW.ret ?_ | refine AW.exit ?_);simp only [undef,Y5,aop,ev,ofValue,Zd,put_none,Zv,APost,ares,Y9,Za,Nat.reduceEqDiff,↓reduceIte,cells_v,cells_ifc,splice,List.length_cons,List.length_nil,List.take_zero,List.drop_succ_cons,List.drop_nil,List.nil_append,List.append_nil,List.getElem?_cons_zero,List.all_cons,List.all_nil,one_v,one_ifc,Value.oneCell',Bool.and_self,true_and,and_true,Nat.zero_add,Nat.le_refl,Yu,astore,X5,anil,W0,ne_eq,not_false_eq_true,Option.map_some,Zj,Zl,Zu,Yp,Y7,Bool.not_false,Xj,agg_37,agg_27,h43,h54,h53]) | refine AW.block ?_ | with_reducible refine AW.condT rfl ?_ | with_reducible refine AW.condF rfl ?_)
 rw [hK']
end Go.Proofs.YtddbfjgodbfaoaaGreatDoor.T
namespace Go.Mac
open Go Go.Eng Go.Pl Go.Proofs Go.Proofs.YtddbfjgodbfaoaaGreatDoor.T
open Go.Proofs.Tryz (prog)
theorem u8s:∀ {xs:List LV},xs.all isU8=true->∃ b:List Int,xs=bys b
 | [],_=>⟨[],rfl⟩
 | x::xs,h=>by
  simp only [List.all_cons,Bool.and_eq_true] at h;obtain ⟨b,rfl⟩:=u8s h.2
  cases x with
  | int k n =>
   cases k <;> simp [isU8] at h
   exact ⟨n::b,rfl⟩
  | _=>simp [isU8] at h
theorem pend_told(R:Inst)(at_:Int):∀ {ps:List LV},ps.all okW=true->∃ pc:PL,Z4 R false ps=pc.map pC/\ps.map (toP R)=pc.map (fun x=>(x.1,x.2.map cel)) /\
  lastOf at_ ps=(lastC at_ pc).map (fun o=>match o with | some b=>LV.isl 1 (bys b) | none=>.nils)
 | [],_=>⟨[],by simp [Z4],rfl,rfl⟩
 | x::ps,h=>by
  simp only [List.all_cons,Bool.and_eq_true] at h;obtain ⟨pc,h1,h2,h3⟩:=pend_told R at_ h.2;have hx:=h.1;unfold okW at hx
  split at hx
  ·rename_i a
   refine ⟨(a,none)::pc,?_,?_,?_⟩
   ·simp only [Z4,List.map_cons,h1]
    simp [pC,optC,Z0,Z4]
   ·simp [h2,toP]
   ·simp only [lastOf,lastC,h3]
    cases lastC at_ pc with
    | some o=>simp
    | none =>
     simp only [Option.map_none]
     split <;> simp
  ·rename_i a y ys
   obtain ⟨b,hb⟩:=u8s hx;refine ⟨(a,some b)::pc,?_,?_,?_⟩
   ·simp only [Z4,List.map_cons,h1]
    simp only [pC,optC,Z0,Z4];have:Z0 R false y::Z4 R false ys=cel b:=by
     rw [<- cel_bys R false b,<- hb];simp only [Z4]
    rw [this]
   ·simp only [List.map_cons,h2]
    simp only [toP,Option.map_some];rw [hb,cel_bys]
   ·simp only [lastOf,lastC,h3]
    cases lastC at_ pc with
    | some o=>simp
    | none =>
     simp only [Option.map_none]
     split
     ·simp [hb]
     ·simp
  ·simp at hx
theorem blk_pad(b:List Int):(b++List.replicate 64 0).take 64=blk b:=by
 unfold blk Ze
 rcases Nat.lt_or_ge b.length 64 with h | h
 ·rw [Nat.min_eq_left (by omega),List.take_of_length_le (Nat.le_refl _),List.take_append,List.take_of_length_le (by omega),List.take_replicate,List.take_zero,List.nil_append,Nat.zero_add,List.drop_replicate,Nat.min_eq_left (by omega)]
 ·rw [Nat.min_eq_right h,List.take_append_of_le_length h,List.take_zero,List.nil_append,Nat.zero_add,List.length_take,Nat.min_eq_left h,List.drop_replicate]
  simp
theorem pad_isl(b:List Int):pad64 (.isl 1 (bys b))=.isl 1 (bys (blk b)):=by
 rw [<- blk_pad];simp [pad64,bys]
theorem pad_nils:pad64 .nils=.isl 1 (bys (blk [])):=by
 rw [<- blk_pad];simp [pad64,bys]
theorem map_told(R:Inst):∀ (es:List (Int × AV)),(∀ p∈es,∃ b,p.2=.sl 1 (cel b))->∃ ec,es=mC ec
 | [],_=>⟨[],rfl⟩
 | p::es,h=>by
  obtain ⟨ec,rfl⟩:=map_told R es (fun q hq=>h q (List.mem_cons_of_mem _ hq))
  obtain ⟨b,hb⟩:=h p List.mem_cons_self;refine ⟨(p.1,b)::ec,?_⟩;obtain ⟨k,u⟩:=p
  simp only at hb;subst hb
  rfl
theorem cel_inj:∀ {a b:List Int},cel a=cel b->a=b
 | [],[],_=>rfl
 | [],_::_,h=>by simp [cel] at h
 | _::_,[],h=>by simp [cel] at h
 | x::a,y::b,h=>by
  simp only [cel,List.map_cons,List.cons.injEq] at h;obtain ⟨h1,h2⟩:=h
  injection h1 with h1
  injection h1 with _ h1
  rw [h1,cel_inj (show cel a=cel b from h2)]
theorem kget_told{R:Inst}{ks:List Int}{vs:List LV}{ec:ML}(hm:MapOk R (ks.zip vs) (mC ec))(hv:vs.all okBs=true)(n:Int):X4 (ks.zip vs) n=(pget ec n).map fun b=>LV.isl 1 (bys b):=by
 have h1:=hm.get n;have h2:Eng.mget (mC ec) n=(pget ec n).map (fun b=>.sl 1 (cel b)):=mget_gmap _ _ _
 rw [h2] at h1
 cases hp:pget ec n with
 | none =>
  rw [hp] at h1
  cases hk:X4 (ks.zip vs) n with
  | none=>rfl
  | some x=>rw [hk] at h1;simp at h1
 | some b =>
  rw [hp] at h1
  cases hk:X4 (ks.zip vs) n with
  | none=>rw [hk] at h1;simp at h1
  | some x =>
   rw [hk] at h1;have hx:x∈vs:=by
    have hmem:n∈(ks.zip vs).map (·.1):=by
     apply Classical.byContradiction;intro hc;rw [kget_none hc] at hk;simp at hk
    obtain ⟨y,hy1,hy2⟩:=kget_some hmem;rw [hk] at hy1;injection hy1 with hy1
    subst hy1;exact (List.of_mem_zip hy2).2
   have ho:=List.all_eq_true.1 hv x hx;unfold okBs at ho
   split at ho
   ·rename_i xs
    obtain ⟨b',rfl⟩:=u8s ho;have:cel b=cel b':=by simpa [Z0,cel_bys] using h1
    rw [cel_inj this];rfl
   ·simp at ho
theorem lm_read{as_:List LV}{st st':St}{v:LV}(h:xRead as_ st=some (v,st')):LMeets prog 47 as_ st v st':=by
 unfold xRead at h
 split at h
 case h_2=>simp at h
 rename_i b at_
 split at h
 case h_2=>simp at h
 rename_i e r ks vs el n ps hl
 split at h
 case isFalse=>simp at h
 rename_i hc;obtain ⟨he,hel,hn,hok,hlen,hvs⟩:=hc;subst hel;subst hn;intro R s hs hr;obtain ⟨t1,t2,hob,_,hperm,_⟩:=hs.ents.focus hl;obtain ⟨q,es,u3,s3,rfl,hm,h3⟩:=disk_lies hob;have hb:=disk_bor (b:=b) (e:=e) (r:=r) (es:=es) (q:=q) hok h3;have harg:∀ I w xs,Rel I ((R.ρ b,.cells e [.v (.int .i64 r),.v (.map (some q)),u3] 3)::(q,.imap .i64 es)::s3) w->RVs I xs (Z4 R true [.ptr b 0,.int .i64 at_]) ->
   RVs (I.with ((R.ρ b,.cells e [.v (.int .i64 r),.v (.map (some q)),u3] 3)::(q,.imap .i64 es)::s3) w) xs [.rp (.agg [.v (.int .i64 r),.mp .i64 es,.sl 2 ((ps.map (toP R)).map pAV)]),.v (.int .i64 at_)]:=by
  intro I w xs hrel ha;have ha':RVs I xs (.v (.pointer (some ⟨R.ρ b,0,none⟩))::[.v (.int .i64 at_)]):=by simpa [Z4,Z0] using ha
  exact rvs_box (vs:=[.v (.int .i64 r),.mp .i64 es,.sl 2 ((ps.map (toP R)).map pAV)]) List.mem_cons_self (us:=[.v (.int .i64 r),.v (.map (some q)),u3]) (by simp) hb hrel ha'
 split at h
 ·
  rename_i hat;simp only [Option.some.injEq,Prod.mk.injEq] at h;obtain ⟨rfl,rfl⟩:=h
  refine Meets.use _ t2 hperm.symm ?_
  refine Meets.borrow2 harg ((read_err r at_ hat _ _ rfl).mono ?_);rintro rr t rfl;refine ⟨[],by simp,by simp [Hp.keys],rfl,by simp,?_⟩
  refine ⟨R,s,Agree.refl _ _,Nat.le_refl _,?_,?_,HpWk.perm hperm.symm,hs⟩
  ·simp only [Z0,Z4,mkIfc]
   exact Wk.refl _
  ·simp [Z8,Zc]
 ·rename_i hat
  have hat2:0<=at_/\at_<=1073741824:=by omega
  obtain ⟨pc,hp1,hp2,hp3⟩:=pend_told R at_ hok;obtain ⟨ec,rfl⟩:=map_told R es (fun p hp=>by
   have:=hm.perm.mem_iff.1 hp;obtain ⟨y,hy,rfl⟩:=List.mem_map.1 this;have hyv:=(List.of_mem_zip (show (y.1,y.2)∈ks.zip vs from hy)).2
   have ho:=List.all_eq_true.1 hvs _ hyv;unfold okBs at ho
   split at ho
   ·rename_i xs hxs
    obtain ⟨b',rfl⟩:=u8s ho;refine ⟨b',?_⟩;simp only [hxs,Z0,cel_bys]
   ·simp at ho)
  have hpc:(ps.map (toP R)).map pAV=pc.map pC:=by
   rw [hp2,List.map_map];apply List.map_congr_left;rintro ⟨a,o⟩ _
   cases o <;> rfl
  have hkt:=kget_told hm hvs at_;have hres:v=.tup [.isl 1 (bys (readC at_ ec pc)),.nili]/\st'=st:=by
   rw [hp3,hkt] at h;unfold readC
   cases hlc:lastC at_ pc with
   | some o =>
    rw [hlc] at h
    cases o with
    | some b' =>
     simp only [Option.map_some,pad_isl,Option.some.injEq,Prod.mk.injEq] at h;exact ⟨h.1.symm,h.2.symm⟩
    | none =>
     simp only [Option.map_some,pad_nils,Option.some.injEq,Prod.mk.injEq] at h;exact ⟨h.1.symm,h.2.symm⟩
   | none =>
    rw [hlc] at h;simp only [Option.map_none] at h
    cases hpg:pget ec at_ with
    | some b' =>
     rw [hpg] at h;simp only [Option.map_some,pad_isl,Option.some.injEq,Prod.mk.injEq] at h;exact ⟨h.1.symm,h.2.symm⟩
    | none =>
     rw [hpg] at h;simp only [Option.map_none,pad_nils,Option.some.injEq,Prod.mk.injEq] at h;exact ⟨h.1.symm,h.2.symm⟩
  obtain ⟨rfl,rfl⟩:=hres;refine Meets.froz ?_
  refine Meets.use _ t2 hperm.symm ?_
  rw [hpc] at harg;have hpl:pc.length<=1048576:=by
   have:=congrArg List.length hp1;rw [Zy,List.length_map,List.length_map] at this;omega
  refine Meets.borrow2 harg ((read_av r at_ hat2 ec pc hpl).mono ?_);rintro rr t ⟨q',cap,t',h64,hmx,rfl,rfl,hsub⟩;refine ⟨[(q',.cells 5 (cel (readC at_ ec pc)) (cap*1))],fun p hp=>hsub.subset hp,fun _=>by simp [Hp.keys],rfl,?_,?_⟩
  ·intro p hp
   simp only [List.mem_singleton] at hp;subst hp;simp only [AObj.plain,List.all_eq_true];intro x hx;unfold cel at hx;obtain ⟨y,_,rfl⟩:=List.mem_map.1 hx
   rfl
  ·intro hn
   have hlenr:(readC at_ ec pc).length=64:=by
    unfold readC
    split <;> exact blk_length _
   have hkn:q'∉Hp.keys (((R.ρ b,AObj.cells e [.v (.int .i64 r),.v (.map (some q)),u3] 3)::(q,.imap .i64 (mC ec))::s3)++t2):=(List.nodup_cons.1 hn).1;refine ⟨[(q',.cells 5 (cel (readC at_ ec pc)) (cap*1))],.tup [.sl 1 (cel (readC at_ ec pc)),.v .nilIface],_,fun p hp=>by
    simp only [List.mem_singleton] at hp;subst hp;simp,?_,.drop _ (.rest (fun k hk=>by
     simp only [Hp.keys,List.map_cons,List.map_nil,List.mem_singleton];intro e;subst e;exact hkn hk)),?_⟩
   ·refine BorL.tup (.cons ?_ (.refl _ _))
    refine .row q' 0 64 cap 1 (cap*1) 5 (cel (readC at_ ec pc)) (cel (readC at_ ec pc)) (by simp) ?_ h64 (by unfold big;omega) ?_ ?_
    ·unfold cel;rw [List.length_map,hlenr]
    ·intro i x hx
     unfold cel at hx;rw [List.getElem?_map] at hx;obtain ⟨y,_,rfl⟩:=Option.map_eq_some_iff.1 hx
     rfl
    ·rw [cel_flat,List.drop_zero,List.take_of_length_le]
     unfold cel;rw [List.length_map,hlenr];omega
   ·refine ⟨R,s,Agree.refl _ _,Nat.le_refl _,?_,by simp [Z8,Zc],HpWk.perm hperm.symm,hs⟩
    simp only [Z0,Z4,cel_bys];exact Wk.refl _
end Go.Mac
namespace Go.Mac
open Go Go.Eng Go.Proofs
open Go.Proofs.Tryz (prog)
theorem extB_sound{f:FuncId}{F:List LV->St->Option (LV × St)}(h:extB f=some F){as_:List LV}{st st':St}{v:LV}(hF:F as_ st=some (v,st')):LMeets prog f as_ st v st':=by
 simp only [extB] at h
 split at h
 ·rename_i hf;subst hf;injection h with h;subst h;exact lm_mclone hF
 split at h
 ·rename_i hf;subst hf;injection h with h;subst h;exact lm_needs hF
 split at h
 ·rename_i hf;subst hf;injection h with h;subst h;exact lm_is hF
 split at h
 ·rename_i hf;subst hf;injection h with h;subst h;exact lm_read hF
 split at h
 ·rename_i hf;subst hf;injection h with h;subst h;exact lm_sorted hF
 split at h
 ·rename_i hf;subst hf;injection h with h;subst h;exact lm_as hF
 ·simp at h
theorem mixed_seat:prog.follows .mixedOrders=true:=by kernel_rfl
theorem extCk:ExtSound prog Ck:=fun f F h as_ st v st' hF=>extB_sound h hF
theorem extC0:ExtSound prog C0:=by
 intro f F h as_ st v st' hF;simp only [C0] at h
 split at h
 ·rename_i hf;subst hf;injection h with h;subst h;exact lcall_sound extCk mixed_seat 600 _ _ _ _ _ hF
 split at h
 ·rename_i hf;subst hf;injection h with h;subst h;exact lcall_sound extCk mixed_seat 600 _ _ _ _ _ hF
 split at h
 ·rename_i hf;subst hf;injection h with h;subst h;exact lcall_sound extCk mixed_seat 600 _ _ _ _ _ hF
 ·exact extB_sound h hF
end Go.Mac
namespace Go.Mac
open Go Go.Eng Go.Proofs Go.Proofs.YtddbfjgodbfaoaaGreatDoor
open Go.Proofs.Tryz (prog)
theorem map_of{α:Type}{f:α->LV}{G:LV->Prop}(hG:∀ x,G x->∃ n,x=f n):∀ {xs:List LV},(∀ x∈xs,G x)->∃ l:List α,xs=l.map f
 | [],_=>⟨[],rfl⟩
 | x::xs,h=>by
  obtain ⟨n,hn⟩:=hG x (h x (by simp))
  obtain ⟨l,hl⟩:=map_of hG (xs:=xs) fun y hy=>h y (by simp [hy])
  exact ⟨n::l,by rw [hn,hl];rfl⟩
def isBys(v:LV):Prop:=∃ b:List Int,v=.isl 1 (bys b)
def isInts(v:LV):Prop:=∃ b:List Int,v=.isl 1 (ints b)
theorem Rd.mono{H:Type}{enc:TypeId × Value->H}{P:Program}{R:Inst}{w:World}{t:TypeId}{G G':LV->Prop}(h:Rd enc P R w t G)(hG:∀ v,G v->G' v):Rd enc P R w t G':=by
 intro base sp hd fuel cs x h1 h2;obtain ⟨v,g,r⟩:=h base sp hd fuel cs x h1 h2;exact ⟨v,hG v g,r⟩
section
variable {H : Type} {enc : TypeId × Value → H} {P : Program} {R : Inst} {w : World}
theorem Rd.bys{t e:TypeId}(ht:P.underlying t=some (.slice e))(he:P.underlying e=some (.int .u8))(hk:P.cellsOf e=1)(hb:0<P.bytesOf e):Rd enc P R w t isBys:=
 (Rd.slice ht hk (by omega) hb (Rd.int he) (by rintro v ⟨n,rfl,_⟩;rfl)).mono (by
  rintro v ⟨xs,rfl,h,_⟩;obtain ⟨l,rfl⟩:=map_of (f:=LV.int .u8) (by rintro x ⟨n,rfl,_⟩;exact ⟨n,rfl⟩) h
  exact ⟨l,rfl⟩)
theorem Rd.ints{t e:TypeId}(ht:P.underlying t=some (.slice e))(he:P.underlying e=some (.int .i64))(hk:P.cellsOf e=1)(hb:0<P.bytesOf e):Rd enc P R w t isInts:=
 (Rd.slice ht hk (by omega) hb (Rd.int he) (by rintro v ⟨n,rfl,_⟩;rfl)).mono (by
  rintro v ⟨xs,rfl,h,_⟩;obtain ⟨l,rfl⟩:=map_of (f:=LV.int .i64) (by rintro x ⟨n,rfl,_⟩;exact ⟨n,rfl⟩) h
  exact ⟨l,rfl⟩)
end
theorem own_seat:ownKnob prog.godebug=none:=by kernel_rfl
theorem laid_seat:laidOutB prog=true:=by kernel_rfl
def isInt(k:IntKind)(v:LV):Prop:=∃ n,v=.int k n
theorem Rd.i{H:Type}{enc:TypeId × Value->H}{P:Program}{R:Inst}{w:World}{t:TypeId}{k:IntKind}(ht:P.underlying t=some (.int k)):Rd enc P R w t (isInt k):=(Rd.int ht).mono (by rintro v ⟨n,rfl,_⟩;exact ⟨n,rfl⟩)
end Go.Mac
namespace Go.Mac
open Go Go.Eng Go.Proofs Go.Proofs.YtddbfjgodbfaoaaGreatDoor Go.ChangeShapes Go.WideShapes Go.RowKit
open Go.Proofs.Tryz (prog)
set_option maxRecDepth 100000
theorem et_seat:prog.globalNamed "errors.errorType" = some 0:=by kernel_rfl
theorem rt_seat:(prog.cutTypes.find? (·.1 == "internal/reflectlite.rtype")).map (·.2)=some 185:=by kernel_rfl
theorem row_seat:((List.range 252).filter fun t=>prog.rowNamed t [101,114,114,111,114])=[27]:=by kernel_rfl
theorem size_seat:prog.types.size=252:=by kernel_rfl
abbrev laidL:List (String × DataW Unit):=[("errors.errorType",Rows.laid_errors_errorType)]
theorem gnd_of_laid{W:World}(h:laidMetH prog laidL W):Gnd (heapI W):=by
 have h':laidMet prog [] W/\handlesMet prog laidL W:=h
 obtain ⟨name,u,ty,e1,e2,e3,e4,e5⟩:=h'.2 _ (List.mem_singleton.2 rfl);have en:name=[101,114,114,111,114]:=(Option.some.inj e1).symm;subst en;obtain rfl:=Option.some.inj (rt_seat.symm.trans e2);have hm:ty∈(List.range 252).filter fun t=>prog.rowNamed t [101,114,114,111,114]:=List.mem_filter.2 ⟨List.mem_range.2 (by rw [<- size_seat];exact e3),e4⟩
 rw [row_seat] at hm;obtain rfl:=List.mem_singleton.1 hm;have hh:typeHandle prog 27=.pointer (some ⟨1,27,none⟩):=by kernel_rfl
 rw [hh] at e5;have hc:W.cell? ⟨0,0,none⟩=some (.iface 185 (.agg #[.pointer (some ⟨1,27,none⟩)])):=by simpa using World.var?_cell et_seat e5 0
 intro a x hx;obtain ⟨rfl,rfl⟩:=Prod.mk.inj (List.mem_singleton.1 hx);exact (heapI_cell hc).2
noncomputable def laidWorld(os:Os):World:=
 let w0:=World.holding prog os ⟨#[],#[],[]⟩
 { w0 with heap:=w0.heap.modify 0 fun
   | .cells _ t frozen=>.cells #[.iface 185 (.agg #[.pointer (some ⟨1,27,none⟩)])] t frozen
   | o=>o }
theorem laidWorld_met(os:Os)(args:Array Value):laidMetH prog laidL ((laidWorld os).forCall (fun _ _=>0) ⟨#[],args,[]⟩).memory:=
 laidMetH_of_parts (laidMet_nil _ _) (by kernel_rfl)
def isU8v(v:LV):Prop:=∃ n,v=.int .u8 n/\(Lit.int .u8 n).wf=true
def isI64(v:LV):Prop:=∃ n,v=.int .i64 n/\(Lit.int .i64 n).wf=true
theorem u8_wf{n:Int}(h:(Lit.int .u8 n).wf=true):0<=n/\n<=255:=by
 have e3:IntKind.u8.min=0:=rfl;have e4:IntKind.u8.max=255:=rfl;simp only [Lit.wf,Bool.and_eq_true,decide_eq_true_eq] at h;omega
end Go.Mac
