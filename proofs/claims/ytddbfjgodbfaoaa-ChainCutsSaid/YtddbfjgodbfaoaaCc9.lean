/-
 ChainCuts holds for every input: behind any crash there are the records ahead of the cut, and what was appended behind it; no condition.
-/
import Derived.Test.YtddbfjgodbfaoaaCc3
import Derived.Test.YtddbfjgodbfaoaaCc5
import Derived.Test.YtddbfjgodbfaoaaCc6
import Derived.Test.YtddbfjgodbfaoaaCc7
import Derived.Test.YtddbfjgodbfaoaaCc8
import Derived.Test.YtddbfjgodbfaoaaProg
import Derived.KernelRfl
import Derived.Test.YtddbfjgodbfaoaaRows
set_option linter.unusedVariables false
set_option linter.unusedSimpArgs false
namespace Go.Mac
open Go Go.Eng Go.Proofs Go.Mac.Nd
open Go.IntKind (i64)
open Go.Proofs.Try (prog)
set_option maxHeartbeats 0
set_option maxRecDepth 100000
theorem lconv_bys{P:Program}{src dst el:TypeId}(h1:intT P dst=none)(h2:Xn P src=some el)(h3:intT P el=some .u8)(h4:isStrT P dst=true)(u:List Int):lconv P src dst (.isl 1 (bys u))=some (.str (strB u)):=by
 unfold lconv;simp [h1,h2,h3,h4]
theorem conv_str(u:List Int):lconv prog 23 9 (.isl 1 (bys u))=some (.str (strB u)):=lconv_bys (el:=5) (by kernel_rfl) (by kernel_rfl) (by kernel_rfl) (by kernel_rfl) u
abbrev s9E(k:Nat)(i:Int):LEnv:=[.sl 2 0 0 k none,.sl 2 1 0 k none,.any,.any,.any,.int .i64 i,.any,.any,.any,.any,.any,.any,.any,.any,.any,.any,.any,.any,.any,.any,.any,.any,.any,.any,.any,.any,.any,.any,.any,.any,.any,.any,.any,.any,.any,.any,.any,.any,.any,.any,.any,.any,.any]
abbrev s9X:LEnv:=[.any,.any,.any,.any,.any,.any,.any,.any,.any,.any,.any,.any,.any,.any,.any,.any,.any,.any,.any,.any,.any,.any,.any,.any,.any,.any,.any,.any,.any,.any,.any,.any,.any,.any,.any,.any,.any,.any,.any,.any,.any,.any,.any]
abbrev s9S(x y:ML):St:=⟨2,[(0,.row 64 2 (Zp x)),(1,.row 64 2 (Zp y))]⟩
theorem zq9_0(a0:Int)(q0:Nat):LV.pel 2 q0 (0+a0.toNat) 0=LV.pel 2 q0 (a0.toNat) 0:=by simp
theorem s9_step(n fu:Nat)(x y:ML)(k:Nat)(hk:k<=x.length)(hk2:k<=y.length)(hk3:k<=100000)(i a:Int)(u:List Int)(h0:0<=i)(hi:i<(k:Int))(hx:(Zp x)[i.toNat]? = some (.agg [.int .i64 a,.isl 1 (bys u)]))(hy:(Zp y)[i.toNat]? = some (.agg [.int .i64 a,.isl 1 (bys u)]))(r:LX × LEnv × St)(hr:Z2 prog C0 (n+20) 30 0 2 fu (s9E k (i+1)) (s9S x y)=some r):Z2 prog C0 (n+20) 30 0 2 (fu+1) (s9E k i) (s9S x y)=some r:=by
 have f1:decide (i<(↑k:Int))=true:=by simp [-List.reduceReplicate,conv_str];omega
 have f2:0<=i/\i<(↑k:Int):=by omega
 have f3:=zq9_0 i 0;have f4:(Zp x)[i.toNat]? = some (LV.agg [.int i64 a,.isl 1 (bys u)]):=hx;have f5:=zq9_0 i 1;have f6:(Zp y)[i.toNat]? = some (LV.agg [.int i64 a,.isl 1 (bys u)]):=hy;have f7:(!decide (a=a))=false:=by simp
 have f8:lconv prog 23 9 (LV.isl 1 (bys u))=some (LV.str (strB u)):=by simp (disch:=omega) [-List.reduceReplicate,conv_str]
 have f9:LV.bool (if (!decide (a=a))=true then true else !strB u==strB u)=LV.bool false:=by simp
 have f10:LV.int i64 (IntKind.wrap i64 (i+1))=LV.int i64 (i+1):=by simp (disch:=omega) [-List.reduceReplicate,conv_str]
 have f11:=hr;exact dlp (fun h=>ai (congrArg LV.bool f1)<|ai (f2)<|ai (f3)<|ai (f4)<|ai (f2)<|ai (f5)<|ai (f6)<|ai (congrArg some f7)<|ai (congrArg some f7)<|ai (congrArg some f7)<|ai (f2)<|ai (f3)<|ai (congrArg some f7)<|ai (congrArg some f7)<|ai (f4)<|ai (congrArg some f7)<|ai (f8)<|ai (congrArg some f7)<|ai (congrArg some f7)<|ai (congrArg some f7)<|ai (f2)<|ai (f5)<|ai (congrArg some f7)<|ai (congrArg some f7)<|ai (f6)<|ai (congrArg some f7)<|ai (f8)<|ai (congrArg some f7)<|ai (f9)<|ai (f10)<|ai (Eq.refl (Zc f11))<|ai (f11)<|h) (.i (.s (.s (.a) (.b true (.a))) (.s (.k (.s (.d [] [.a,.a,.v (vOf f3) (.q),.a,.e (rOf f4),.a,.a,.v (vOf f5) (.q),.a,.e (rOf f6),.a,.a,.g false (.a),.g false (.a),.g false (.v (vOf f3) (.q)),.g false (.a),.g false (.e (rOf f4)),.g false (.m (rOf f8)),.g false (.a),.g false (.a),.g false (.v (vOf f5) (.q)),.g false (.a),.g false (.e (rOf f6)),.g false (.m (rOf f8))] [] [.g false (.a),.v (vOf f9) (.a)]) (.a))) (.r [.a,.v (vOf f10) (.a)]))) (.h [] (eOf f11) (Y2 f11) (rOf f11))) (by kernel_rfl)
theorem s9_end(n fu:Nat)(x y:ML)(k:Nat):Z2 prog C0 (n+20) 30 0 2 (fu+1) (s9E k k) (s9S x y)=some (.exit 0,s9X,s9S x y):=by
 have f1:decide ((↑k:Int)<(↑k:Int))=false:=by simp
 exact dlp (fun h=>ai (congrArg LV.bool f1)<|h) (.i (.s (.s (.a) (.b false (.a))) .a) (.a)) (by kernel_rfl)
theorem s9_thru(n:Nat)(x y:ML)(k:Nat)(L:Z2 prog C0 (n+20) 30 0 2 (n+20) (s9E k 0) (s9S x y)=some (.exit 0,s9X,s9S x y)):
  Zd prog C0 (Z3 prog C0 (n+20)) (n+20) 30 [.sl 2 0 0 k none,.sl 2 1 0 k none] (s9S x y)=some (.bool true,s9S x y):=by
 have f1:(!decide ((↑k:Int)=(↑k:Int)))=false:=by simp
 have f2:=L
 exact drn (fun h=>ai (congrArg LV.bool f1)<|ai (Eq.refl (Zc f2))<|ai (f2)<|h) (.s (.a) (.s (.s (.a) (.b false (.a))) (.s (.s (.a) (.k (.l (.h [] (eOf f2) (Y2 f2) (rOf f2))))) (.a)))) [] .a (by kernel_rfl)
theorem s9_N(n:Nat)(y:ML):Zd prog C0 (Z3 prog C0 (n+20)) (n+20) 30 [.nils,.sl 2 0 0 0 none] ⟨1,[(0,.row 64 2 (Zp y))]⟩=some (.bool true,⟨1,[(0,.row 64 2 (Zp y))]⟩):=by
 exact drn (fun h=>h) (.a) [] .a (by kernel_rfl)
theorem s9_loop(n:Nat)(x y:ML)(k:Nat)(hk:k<=x.length)(hk2:k<=y.length)(hk3:k<=100000)(he:x.take k=y.take k):∀ (q i fu:Nat),i+q=k->q<fu ->
  Z2 prog C0 (n+20) 30 0 2 fu (s9E k i) (s9S x y)=some (.exit 0,s9X,s9S x y)
 | 0,i,fu,h,hf=>by
  obtain ⟨fu,rfl⟩:∃ q,fu=q+1:=⟨fu-1,by omega⟩
  obtain rfl:i=k:=by omega
  exact s9_end n fu x y i
 | q+1,i,fu,h,hf=>by
  obtain ⟨fu,rfl⟩:∃ q,fu=q+1:=⟨fu-1,by omega⟩
  have hx:x[i]? = some x[i]:=List.getElem?_eq_getElem (by omega)
  have hy:y[i]? = some x[i]:=by
   have:=congrArg (fun z=>z[i]?) he
   simp only [List.getElem?_take,if_pos (show i<k by omega)] at this
   rw [<- this];exact hx
  exact s9_step n fu x y k hk hk2 hk3 i x[i].1 x[i].2 (by omega) (by omega) (by simpa using lksL_at hx) (by simpa using lksL_at hy) _ (s9_loop n x y k hk hk2 hk3 he q (i+1) fu (by omega) (by omega))
theorem s9_ok(n:Nat)(x y:ML)(k:Nat)(hk:k<=x.length)(hk2:k<=y.length)(hk3:k<=100000)(he:x.take k=y.take k)(hn:k<n+20):Zd prog C0 (Z3 prog C0 (n+20)) (n+20) 30 [.sl 2 0 0 k none,.sl 2 1 0 k none] (s9S x y)=some (.bool true,s9S x y):=
 s9_thru n x y k (s9_loop n x y k hk hk2 hk3 he k 0 (n+20) (by omega) hn)
abbrev LiF(l:List Act5)(b:Bool):Prop:=∀ j,30<j->Zd prog C0 (Z3 prog C0 (j+20)) (j+20) 24 [.isl 5 (Zf l)] ⟨0,[]⟩=some (.bool b,⟨0,[]⟩)
abbrev PlF(l:List Act5)(m:ML)(p:PL)(nx st:Int):Prop:=∀ j,800<=j->Zd prog C0 (Z3 prog C0 (j+800)) (j+800) 26 [.isl 5 (Zf l)] ⟨0,[]⟩=some (.tup [.ptr 0 0,.ptr 1 0],⟨2,[(0,dO 4000 m p),(1,chD 3 nx st)]⟩)
abbrev WkF:Prop:=∀ j,1000<=j->Zd prog C0 (Z3 prog C0 (j)) (j) 25 [] ⟨0,[]⟩=some (.bool true,⟨0,[]⟩)
theorem cc_heavy(n:Nat)(l:List Act5)(w:Int)(w0:0<=w)(w1:w<=255)(ks:List Int)(cut:Int)(W:WkF)(LI:LiF l false):Zd prog C0 (Z3 prog C0 (n+2000)) (n+2000) 7 [.isl 5 (Zf l),.int .u8 w,.isl 1 (ints ks),.int .i64 cut] ⟨0,[]⟩=some (.bool true,⟨0,[]⟩):=by
 have f1:=LI (n+1979) (by omega)
 have f2:=W (n+1999) (by omega)
 exact drn (fun h=>ai (f1)<|ai (f2)<|h) (.s (.a) (.s (.s (.r [.a,.f (rOf f1)]) (.c (.s (.r [.f (rOf f2)]) (.a)))) .a)) [] .a (by kernel_rfl)
theorem cc_long(n:Nat)(l:List Act5)(w:Int)(w0:0<=w)(w1:w<=255)(ks:List Int)(cut:Int)(W:WkF)(LI:LiF l true)(hk:60<ks.length):Zd prog C0 (Z3 prog C0 (n+2000)) (n+2000) 7 [.isl 5 (Zf l),.int .u8 w,.isl 1 (ints ks),.int .i64 cut] ⟨0,[]⟩=some (.bool true,⟨0,[]⟩):=by
 have f1:=LI (n+1979) (by omega)
 have f2:LV.bool (if false=true then true else decide (60<((ints ks).length:Int)))=LV.bool true:=by simp;omega
 have f3:=W (n+1999) (by omega)
 exact drn (fun h=>ai (f1)<|ai (f2)<|ai (f3)<|h) (.s (.a) (.s (.s (.r [.a,.f (rOf f1),.a,.a,.a,.a,.a,.v (vOf f2) (.a)]) (.c (.s (.r [.f (rOf f3)]) (.a)))) .a)) [] .a (by kernel_rfl)
theorem cc_none(n:Nat)(l:List Act5)(w:Int)(w0:0<=w)(w1:w<=255)(ks:List Int)(cut:Int)(W:WkF)(LI:LiF l true)(hk:ks.length<=60)(m m1:ML)(p:PL)(nx st nx1 st1:Int)(P:PlF l m p nx st)(SY:SynF 4000 m m1 p nx st)(O:OpnF 4000 m1 .nils (opS0 4000 m1 [] 3 nx1 st1)):Zd prog C0 (Z3 prog C0 (n+2000)) (n+2000) 7 [.isl 5 (Zf l),.int .u8 w,.isl 1 (ints ks),.int .i64 cut] ⟨0,[]⟩=some (.bool true,⟨0,[]⟩):=by
 have f1:=LI (n+1979) (by omega)
 have f2:LV.bool (if false=true then true else decide (60<((ints ks).length:Int)))=LV.bool false:=by simp;omega
 have f3:=P (n+1199) (by omega)
 have f4:=SY (n+1939) (by omega)
 have f5:=O (n+1899) (by omega)
 have f6:=W (n+1999) (by omega)
 exact drn (fun h=>ai (f1)<|ai (f2)<|ai (f3)<|ai (f4)<|ai (f5)<|ai (f6)<|h) (.s (.a) (.s (.s (.r [.a,.f (rOf f1),.a,.a,.a,.a,.a,.v (vOf f2) (.a)]) (.a)) (.s (.r [.a,.f (rOf f3)]) (.s (.a) (.s (.r [.a,.f (rOf f4)]) (.s (.r [.a,.f (rOf f5)]) (.s (.a) (.s (.s (.a) (.c (.s (.r [.f (rOf f6)]) (.a)))) .a)))))))) [] .a (by kernel_rfl)
theorem cc_N(n:Nat)(l:List Act5)(w:Int)(w0:0<=w)(w1:w<=255)(ks:List Int)(cut:Int)(W:WkF)(LI:LiF l true)(hk:ks.length<=60)(m m1:ML)(p:PL)(nx st nx1 st1:Int)(P:PlF l m p nx st)(SY:SynF 4000 m m1 p nx st)(ls:ML)(hl0:ls≠[])(hl1:ls.length<=1000)(O1:OpnF 4000 m1 (.sl 2 2 0 ls.length none) (opS 4000 m1 [] 3 nx1 st1 (Zp ls)))(hz:w.tmod (ls.length:Int)=0)(hz2:(0:Int)<(ls.length:Int))(at_:Int)(o:List Int)(hx:(Zp ls)[0]? = some (.agg [.int .i64 at_,.isl 1 (bys o)]))(m2 m4:ML)(p3:PL)(nx3 st3 nx4 st4:Int)(a0:0<=at_)(a1:at_<=100000)(CU:CutF 4000 m1 m2 [] nx st at_)(AP:AppF 4000 m2 [] p3 (at_+1) (st+1) nx3 st3 [1,2] (.tup [.int .i64 (at_+1),.nili]))(CR:CraF 4000 m2 m4 p3 ks cut)(O2:OpnF 4000 m4 .nils (opS0 4000 m4 [] 3 nx4 st4)):Zd prog C0 (Z3 prog C0 (n+2000)) (n+2000) 7 [.isl 5 (Zf l),.int .u8 w,.isl 1 (ints ks),.int .i64 cut] ⟨0,[]⟩=some (.bool true,⟨0,[]⟩):=by
 have S:=fun j=>s9_N j ls
 have f1:=LI (n+1979) (by omega)
 have f2:LV.bool (if false=true then true else decide (60<((ints ks).length:Int)))=LV.bool false:=by simp;omega
 have f3:=P (n+1199) (by omega)
 have f4:=SY (n+1939) (by omega)
 have f5:=O1 (n+1899) (by omega)
 have f6:decide ((ls.length:Int)=0)=false:=by simp;omega
 have f7:LV.int i64 (IntKind.wrap i64 w)=LV.int i64 w:=by simp (disch:=omega)
 have f8:¬(ls.length:Int)=0:=by omega
 have f9:LV.int i64 (Int.tmod w (ls.length:Int))=LV.int i64 0:=by simp;omega
 have f10:(0:Int)<=(0:Int)/\(0:Int)<(ls.length:Int):=by omega
 have f11:(Zp ls)[0]? = some (LV.agg [.int i64 at_,.isl 1 (bys o)]):=hx;have f12:=CU (n+1939) (by omega)
 have f13:=AP (n+1834) (by omega)
 have f14:=CR (n+1939) (by omega)
 have f15:=O2 (n+1899) (by omega)
 have f16:0+List.length ls<=List.length (Zp ls):=by simp
 have f17:true=true:=by with_reducible rfl
 have f18:(0:Int)<=(0:Int)/\(0:Int)<=Option.getD (some (0:Int)) (ls.length:Int)/\Option.getD (some (0:Int)) (ls.length:Int)<=(ls.length:Int):=by simp
 have f19:=S (n+1979);have f20:=W (n+1999) (by omega)
 exact drn (fun h=>ai (f1)<|ai (f2)<|ai (f3)<|ai (f4)<|ai (f5)<|ai (congrArg LV.bool f6)<|ai (f7)<|ai (f8)<|ai (f9)<|ai (f10)<|ai (f11)<|ai (f12)<|ai (f13)<|ai (f14)<|ai (f15)<|ai (f16)<|ai (f17)<|ai (f18)<|ai (f19)<|ai (f20)<|h) (.s (.a) (.s (.s (.r [.a,.f (rOf f1),.a,.a,.a,.a,.a,.v (vOf f2) (.a)]) (.a)) (.s (.r [.a,.f (rOf f3)]) (.s (.a) (.s (.r [.a,.f (rOf f4)]) (.s (.r [.a,.f (rOf f5)]) (.s (.a) (.s (.s (.a) (.b false (.a))) (.s (.r [.a,.v (vOf f7) (.a),.a,.a,.v (vOf f9) (.q)]) (.s (.s (.r [.a,.a,.a,.q,.a,.e (rOf f11),.f (rOf f12)]) (.a)) (.s (.r [.a,.a,.f (rOf f13)]) (.s (.a) (.s (.r [.a,.a,.a,.f (rOf f14)]) (.s (.r [.a,.f (rOf f15)]) (.s (.s (.d [] [.a,.a,.a,.a,.a,.a,.a,.a,.a,.a,.a,.a,.a,.a,.q] [] [.f (rOf f19)]) (.a)) (.s (.r [.a,.a,.a,.a,.a,.a,.a,.a,.a,.a,.a,.a,.a,.a,.a,.a,.a,.a,.a,.a,.a,.a,.a,.a,.a,.a,.a,.a,.a,.a,.f (rOf f20)]) (.a))))))))))))))))) [] .a (by kernel_rfl)
theorem cc_K(n:Nat)(l:List Act5)(w:Int)(w0:0<=w)(w1:w<=255)(ks:List Int)(cut:Int)(W:WkF)(LI:LiF l true)(hk:ks.length<=60)(m m1:ML)(p:PL)(nx st nx1 st1:Int)(P:PlF l m p nx st)(SY:SynF 4000 m m1 p nx st)(ls:ML)(hl0:ls≠[])(hl1:ls.length<=1000)(O1:OpnF 4000 m1 (.sl 2 2 0 ls.length none) (opS 4000 m1 [] 3 nx1 st1 (Zp ls)))(z:Int)(z0:0<=z)(hz:w.tmod (ls.length:Int)=z)(hz2:z<(ls.length:Int))(at_:Int)(o:List Int)(hx:(Zp ls)[z.toNat]? = some (.agg [.int .i64 at_,.isl 1 (bys o)]))(m2 m4:ML)(p3:PL)(nx3 st3 nx4 st4:Int)(a0:0<=at_)(a1:at_<=100000)(CU:CutF 4000 m1 m2 [] nx st at_)(AP:AppF 4000 m2 [] p3 (at_+1) (st+1) nx3 st3 [1,2] (.tup [.int .i64 (at_+1),.nili]))(CR:CraF 4000 m2 m4 p3 ks cut)(gs:ML)(hg1:gs.length<=1000)(O2:OpnF 4000 m4 (.sl 2 2 0 gs.length none) (opS 4000 m4 [] 3 nx4 st4 (Zp gs)))(SM:∀ j,300<j->Zd prog C0 (Z3 prog C0 (j+20)) (j+20) 30 [.sl 2 0 0 z.toNat none,.sl 2 1 0 z.toNat none] (s9S gs ls)=some (.bool true,s9S gs ls))(hg:(gs.length:Int)=z):Zd prog C0 (Z3 prog C0 (n+2000)) (n+2000) 7 [.isl 5 (Zf l),.int .u8 w,.isl 1 (ints ks),.int .i64 cut] ⟨0,[]⟩=some (.bool true,⟨0,[]⟩):=by
 have f1:=LI (n+1979) (by omega)
 have f2:LV.bool (if false=true then true else decide (60<((ints ks).length:Int)))=LV.bool false:=by simp;omega
 have f3:=P (n+1199) (by omega)
 have f4:=SY (n+1939) (by omega)
 have f5:=O1 (n+1899) (by omega)
 have f6:decide ((ls.length:Int)=0)=false:=by simp;omega
 have f7:LV.int i64 (IntKind.wrap i64 w)=LV.int i64 w:=by simp (disch:=omega)
 have f8:¬(ls.length:Int)=0:=by omega
 have f9:LV.int i64 (Int.tmod w (ls.length:Int))=LV.int i64 z:=by simp;omega
 have f10:0<=z/\z<(ls.length:Int):=by omega
 have f11:=zq9_0 z 3;have f12:(Zp ls)[z.toNat]? = some (LV.agg [.int i64 at_,.isl 1 (bys o)]):=hx;have f13:=CU (n+1939) (by omega)
 have f14:=AP (n+1834) (by omega)
 have f15:=CR (n+1939) (by omega)
 have f16:=O2 (n+1899) (by omega)
 have f17:Wa false (LV.bool true) (LV.bool (decide ((gs.length:Int)<z)))=some (LV.bool false):=by simp;omega
 have f18:0+List.length gs<=List.length (Zp gs):=by simp
 have f19:true=true:=by with_reducible rfl
 have f20:(0:Int)<=(0:Int)/\(0:Int)<=Option.getD (some z) (gs.length:Int)/\Option.getD (some z) (gs.length:Int)<=(gs.length:Int):=by simp;omega
 have f21:LV.sl 2 6 0 (Int.toNat (Option.getD (some z) (gs.length:Int))) none=LV.sl 2 6 0 (z.toNat) none:=by simp
 have f22:0+List.length ls<=List.length (Zp ls):=by simp
 have f23:(0:Int)<=(0:Int)/\(0:Int)<=Option.getD (some z) (ls.length:Int)/\Option.getD (some z) (ls.length:Int)<=(ls.length:Int):=by simp;omega
 have f24:LV.sl 2 3 0 (Int.toNat (Option.getD (some z) (ls.length:Int))) none=LV.sl 2 3 0 (z.toNat) none:=by simp
 have f25:=SM (n+1979) (by omega)
 have f26:decide ((gs.length:Int)=z)=true:=by simp;omega
 have f27:Wa (decide ((gs.length:Int)=z)) (LV.bool true) LV.any=some (LV.bool true):=by simp;omega
 have f28:=W (n+1999) (by omega)
 exact drn (fun h=>ai (f1)<|ai (f2)<|ai (f3)<|ai (f4)<|ai (f5)<|ai (congrArg LV.bool f6)<|ai (f7)<|ai (f8)<|ai (f9)<|ai (f10)<|ai (f11)<|ai (f12)<|ai (f13)<|ai (f14)<|ai (f15)<|ai (f16)<|ai (x_mapS (st:=(St.mk 7 [(0,LObj.box 77 [.int i64 4000,.omap i64 (Zn m4) (Xl m4),.own 88 2 []]),(5,LObj.box 106 [.ptr 0 0,.int i64 3,.int i64 nx4,.int i64 st4]),(6,LObj.row 64 2 (Zp gs)),(1,LObj.box 106 [.ptr 0 0,.int i64 3,.int i64 nx3,.int i64 st3]),(2,LObj.box 106 [.ptr 0 0,.int i64 3,.int i64 nx1,.int i64 st1]),(3,LObj.row 64 2 (Zp ls))])) f17 rfl)<|ai (f18)<|ai (f19)<|ai (f20)<|ai (f21)<|ai (f22)<|ai (f19)<|ai (f23)<|ai (f24)<|ai (f25)<|ai (congrArg some f26)<|ai (congrArg some f26)<|ai (congrArg some f26)<|ai (congrArg some f26)<|ai (congrArg some f26)<|ai (congrArg some f26)<|ai (congrArg some f26)<|ai (congrArg some f26)<|ai (congrArg some f26)<|ai (Yp (st:=(St.mk 7 [(6,LObj.row 64 2 (Zp gs)),(3,LObj.row 64 2 (Zp ls)),(0,LObj.box 77 [.int i64 4000,.omap i64 (Zn m4) (Xl m4),.own 88 2 []]),(5,LObj.box 106 [.ptr 0 0,.int i64 3,.int i64 nx4,.int i64 st4]),(1,LObj.box 106 [.ptr 0 0,.int i64 3,.int i64 nx3,.int i64 st3]),(2,LObj.box 106 [.ptr 0 0,.int i64 3,.int i64 nx1,.int i64 st1])])) f27)<|ai (f28)<|h) (.s (.a) (.s (.s (.r [.a,.f (rOf f1),.a,.a,.a,.a,.a,.v (vOf f2) (.a)]) (.a)) (.s (.r [.a,.f (rOf f3)]) (.s (.a) (.s (.r [.a,.f (rOf f4)]) (.s (.r [.a,.f (rOf f5)]) (.s (.a) (.s (.s (.a) (.b false (.a))) (.s (.r [.a,.v (vOf f7) (.a),.a,.a,.v (vOf f9) (.q)]) (.s (.s (.r [.a,.a,.a,.v (vOf f11) (.q),.a,.e (rOf f12),.f (rOf f13)]) (.a)) (.s (.r [.a,.a,.f (rOf f14)]) (.s (.a) (.s (.r [.a,.a,.a,.f (rOf f15)]) (.s (.r [.a,.f (rOf f16)]) (.s (.s (.d [] [.a,.a,.a,.a,.a,.a,.a,.t (rOf (x_mapS (st:=(St.mk 7 [(0,LObj.box 77 [.int i64 4000,.omap i64 (Zn m4) (Xl m4),.own 88 2 []]),(5,LObj.box 106 [.ptr 0 0,.int i64 3,.int i64 nx4,.int i64 st4]),(6,LObj.row 64 2 (Zp gs)),(1,LObj.box 106 [.ptr 0 0,.int i64 3,.int i64 nx3,.int i64 st3]),(2,LObj.box 106 [.ptr 0 0,.int i64 3,.int i64 nx1,.int i64 st1]),(3,LObj.row 64 2 (Zp ls))])) f17 rfl)),.a,.a,.a,.v (vOf f21) (.q),.a,.a,.v (vOf f24) (.q)] [] [.f (rOf f25)]) (.a)) (.s (.r [.a,.a,.a,.a,.a,.g true (.a),.g true (.a),.g true (.a),.g true (.a),.g true (.a),.g true (.a),.a,.a,.a,.a,.a,.a,.a,.g true (.a),.g true (.a),.a,.a,.a,.a,.a,.a,.a,.g true (.a),.t (rOf (Yp (st:=(St.mk 7 [(6,LObj.row 64 2 (Zp gs)),(3,LObj.row 64 2 (Zp ls)),(0,LObj.box 77 [.int i64 4000,.omap i64 (Zn m4) (Xl m4),.own 88 2 []]),(5,LObj.box 106 [.ptr 0 0,.int i64 3,.int i64 nx4,.int i64 st4]),(1,LObj.box 106 [.ptr 0 0,.int i64 3,.int i64 nx3,.int i64 st3]),(2,LObj.box 106 [.ptr 0 0,.int i64 3,.int i64 nx1,.int i64 st1])])) f27)),.a,.f (rOf f28)]) (.a))))))))))))))))) [] .a (by kernel_rfl)
theorem cc_K1(n:Nat)(l:List Act5)(w:Int)(w0:0<=w)(w1:w<=255)(ks:List Int)(cut:Int)(W:WkF)(LI:LiF l true)(hk:ks.length<=60)(m m1:ML)(p:PL)(nx st nx1 st1:Int)(P:PlF l m p nx st)(SY:SynF 4000 m m1 p nx st)(ls:ML)(hl0:ls≠[])(hl1:ls.length<=1000)(O1:OpnF 4000 m1 (.sl 2 2 0 ls.length none) (opS 4000 m1 [] 3 nx1 st1 (Zp ls)))(z:Int)(z0:0<=z)(hz:w.tmod (ls.length:Int)=z)(hz2:z<(ls.length:Int))(at_:Int)(o:List Int)(hx:(Zp ls)[z.toNat]? = some (.agg [.int .i64 at_,.isl 1 (bys o)]))(m2 m4:ML)(p3:PL)(nx3 st3 nx4 st4:Int)(a0:0<=at_)(a1:at_<=100000)(CU:CutF 4000 m1 m2 [] nx st at_)(AP:AppF 4000 m2 [] p3 (at_+1) (st+1) nx3 st3 [1,2] (.tup [.int .i64 (at_+1),.nili]))(CR:CraF 4000 m2 m4 p3 ks cut)(gs:ML)(hg1:gs.length<=1000)(O2:OpnF 4000 m4 (.sl 2 2 0 gs.length none) (opS 4000 m4 [] 3 nx4 st4 (Zp gs)))(SM:∀ j,300<j->Zd prog C0 (Z3 prog C0 (j+20)) (j+20) 30 [.sl 2 0 0 z.toNat none,.sl 2 1 0 z.toNat none] (s9S gs ls)=some (.bool true,s9S gs ls))(hg:(gs.length:Int)=z+1)(hy:(Zp gs)[z.toNat]? = some (.agg [.int .i64 (at_+1),.isl 1 (bys [1,2])])):Zd prog C0 (Z3 prog C0 (n+2000)) (n+2000) 7 [.isl 5 (Zf l),.int .u8 w,.isl 1 (ints ks),.int .i64 cut] ⟨0,[]⟩=some (.bool true,⟨0,[]⟩):=by
 have f1:=LI (n+1979) (by omega)
 have f2:LV.bool (if false=true then true else decide (60<((ints ks).length:Int)))=LV.bool false:=by simp;omega
 have f3:=P (n+1199) (by omega)
 have f4:=SY (n+1939) (by omega)
 have f5:=O1 (n+1899) (by omega)
 have f6:decide ((ls.length:Int)=0)=false:=by simp;omega
 have f7:LV.int i64 (IntKind.wrap i64 w)=LV.int i64 w:=by simp (disch:=omega)
 have f8:¬(ls.length:Int)=0:=by omega
 have f9:LV.int i64 (Int.tmod w (ls.length:Int))=LV.int i64 z:=by simp;omega
 have f10:0<=z/\z<(ls.length:Int):=by omega
 have f11:=zq9_0 z 3;have f12:(Zp ls)[z.toNat]? = some (LV.agg [.int i64 at_,.isl 1 (bys o)]):=hx;have f13:=CU (n+1939) (by omega)
 have f14:=AP (n+1834) (by omega)
 have f15:=CR (n+1939) (by omega)
 have f16:=O2 (n+1899) (by omega)
 have f17:Wa false (LV.bool true) (LV.bool (decide ((gs.length:Int)<z)))=some (LV.bool false):=by simp;omega
 have f18:0+List.length gs<=List.length (Zp gs):=by simp
 have f19:true=true:=by with_reducible rfl
 have f20:(0:Int)<=(0:Int)/\(0:Int)<=Option.getD (some z) (gs.length:Int)/\Option.getD (some z) (gs.length:Int)<=(gs.length:Int):=by simp;omega
 have f21:LV.sl 2 6 0 (Int.toNat (Option.getD (some z) (gs.length:Int))) none=LV.sl 2 6 0 (z.toNat) none:=by simp
 have f22:0+List.length ls<=List.length (Zp ls):=by simp
 have f23:(0:Int)<=(0:Int)/\(0:Int)<=Option.getD (some z) (ls.length:Int)/\Option.getD (some z) (ls.length:Int)<=(ls.length:Int):=by simp;omega
 have f24:LV.sl 2 3 0 (Int.toNat (Option.getD (some z) (ls.length:Int))) none=LV.sl 2 3 0 (z.toNat) none:=by simp
 have f25:=SM (n+1979) (by omega)
 have f26:decide ((gs.length:Int)=z)=false:=by simp;omega
 have f27:LV.int i64 (IntKind.wrap i64 (z+1))=LV.int i64 (z+1):=by simp (disch:=omega)
 have f28:decide ((gs.length:Int)=z+1)=true:=by simp;omega
 have f29:0<=z/\z<(gs.length:Int):=by omega
 have f30:=zq9_0 z 6;have f31:(Zp gs)[z.toNat]? = some (LV.agg [.int i64 (at_+1),.isl 1 (bys [1,2])]):=hy;have f32:LV.bool (if decide ((gs.length:Int)=z+1)=true then decide (at_+1=at_+1) else false)=LV.bool true:=by simp;omega
 have f33:LV.bool (if decide ((gs.length:Int)=z)=true then true else true)=LV.bool true:=by simp
 have f34:=W (n+1999) (by omega)
 exact drn (fun h=>ai (f1)<|ai (f2)<|ai (f3)<|ai (f4)<|ai (f5)<|ai (congrArg LV.bool f6)<|ai (f7)<|ai (f8)<|ai (f9)<|ai (f10)<|ai (f11)<|ai (f12)<|ai (f13)<|ai (f14)<|ai (f15)<|ai (f16)<|ai (x_mapS (st:=(St.mk 7 [(0,LObj.box 77 [.int i64 4000,.omap i64 (Zn m4) (Xl m4),.own 88 2 []]),(5,LObj.box 106 [.ptr 0 0,.int i64 3,.int i64 nx4,.int i64 st4]),(6,LObj.row 64 2 (Zp gs)),(1,LObj.box 106 [.ptr 0 0,.int i64 3,.int i64 nx3,.int i64 st3]),(2,LObj.box 106 [.ptr 0 0,.int i64 3,.int i64 nx1,.int i64 st1]),(3,LObj.row 64 2 (Zp ls))])) f17 rfl)<|ai (f18)<|ai (f19)<|ai (f20)<|ai (f21)<|ai (f22)<|ai (f19)<|ai (f23)<|ai (f24)<|ai (f25)<|ai (congrArg some f26)<|ai (congrArg some f26)<|ai (congrArg some f26)<|ai (congrArg some f26)<|ai (f27)<|ai (congrArg some f26)<|ai (congrArg some f26)<|ai (congrArg some f28)<|ai (congrArg some f28)<|ai (congrArg some f28)<|ai (f29)<|ai (f30)<|ai (congrArg some f28)<|ai (congrArg some f28)<|ai (f31)<|ai (congrArg some f28)<|ai (congrArg some f28)<|ai (congrArg some f26)<|ai (f32)<|ai (congrArg some f26)<|ai (f29)<|ai (f30)<|ai (f31)<|ai (congrArg some f26)<|ai (f33)<|ai (f34)<|h) (.s (.a) (.s (.s (.r [.a,.f (rOf f1),.a,.a,.a,.a,.a,.v (vOf f2) (.a)]) (.a)) (.s (.r [.a,.f (rOf f3)]) (.s (.a) (.s (.r [.a,.f (rOf f4)]) (.s (.r [.a,.f (rOf f5)]) (.s (.a) (.s (.s (.a) (.b false (.a))) (.s (.r [.a,.v (vOf f7) (.a),.a,.a,.v (vOf f9) (.q)]) (.s (.s (.r [.a,.a,.a,.v (vOf f11) (.q),.a,.e (rOf f12),.f (rOf f13)]) (.a)) (.s (.r [.a,.a,.f (rOf f14)]) (.s (.a) (.s (.r [.a,.a,.a,.f (rOf f15)]) (.s (.r [.a,.f (rOf f16)]) (.s (.s (.d [] [.a,.a,.a,.a,.a,.a,.a,.t (rOf (x_mapS (st:=(St.mk 7 [(0,LObj.box 77 [.int i64 4000,.omap i64 (Zn m4) (Xl m4),.own 88 2 []]),(5,LObj.box 106 [.ptr 0 0,.int i64 3,.int i64 nx4,.int i64 st4]),(6,LObj.row 64 2 (Zp gs)),(1,LObj.box 106 [.ptr 0 0,.int i64 3,.int i64 nx3,.int i64 st3]),(2,LObj.box 106 [.ptr 0 0,.int i64 3,.int i64 nx1,.int i64 st1]),(3,LObj.row 64 2 (Zp ls))])) f17 rfl)),.a,.a,.a,.v (vOf f21) (.q),.a,.a,.v (vOf f24) (.q)] [] [.f (rOf f25)]) (.a)) (.s (.r [.a,.a,.a,.a,.a,.g false (.a),.g false (.a),.g false (.a),.g false (.v (vOf f27) (.a)),.g false (.a),.g false (.a),.g true (.a),.g true (.a),.g true (.v (vOf f30) (.q)),.g true (.a),.g true (.e (rOf f31)),.g true (.a),.g true (.a),.g false (.v (vOf f32) (.a)),.g false (.a),.a,.a,.v (vOf f30) (.q),.a,.e (rOf f31),.a,.a,.g false (.a),.v (vOf f33) (.a),.a,.f (rOf f34)]) (.a))))))))))))))))) [] .a (by kernel_rfl)
theorem torn_none{t:Int}{old b v:List Int}{T:Int}(ho:Sml t old)(ht:t<=T)(hT:T<256)(hb:Sml (T+1) b)(h0:0<T)(hc:(Y9 b).t=T)(h1:v.take 8=b.take 8)(h2:v.drop 56=old.drop 56):Y9 v=⟨0,false,0,[]⟩:=by
 have b1:=hb.hn (by omega)
 have o1:=ho.tn (by omega)
 have hn:Xt b=T:=by
  unfold Y9 at hc
  split at hc
  ·exact hc
  ·simp only at hc;omega
 unfold Y9;rw [if_neg];intro h;rw [h1,h2,b1.2.2,o1.2.2,hn] at h;simp only [z7,List.cons.injEq,and_true,true_and] at h;omega
theorem crash_all{B:Nat}{m:ML}{nx0 st0:Int}{F:ML}{last0:Int}(I:CI B m [] nx0 st0 F last0){recs:List (List Int)}(hr:∀ b∈recs,okR b)(hs:B+sumN recs<=255)(hq:okQ (pend nx0 (bls st0 recs)))(ks:List Int)(cut:Int):
  ∃ j nx' last',j<=recs.length/\Run (rd (Xf m (pend nx0 (bls st0 recs)) ks cut) []) 3 0 (F++(recI nx0 recs).take j) nx' last'/\Xs (rd (Xf m (pend nx0 (bls st0 recs)) ks cut) []) nx' last'=none:=by
 obtain ⟨q0,q1,q2⟩:=I.pos;have hst:=I.stB;have hlen:=bls_length recs st0;have hat:=fun (q:Nat) (b:List Int) (h:(bls st0 recs)[q]? = some b)=>bls_at (st0:=st0) (by omega) (l:=recs) (off:=0) hr (by omega) (q:=q) (b:=b) (by simpa using h)
 have G1:∀ x,(x<nx0∨nx0+(bls st0 recs).length<=x)->rd (Xf m (pend nx0 (bls st0 recs)) ks cut) [] x=rd m [] x:=by
  intro x hx;rw [rd_nil,rd_nil];refine crash_out ks cut _ x _ 0 m I.hm hq fun y hy e=>?_
  obtain ⟨q,b,hb,rfl⟩:=pend_mem hy;have:=(List.getElem?_eq_some_iff.1 hb).1;simp only at e;omega
 have G2:∀ (q:Nat) (b:List Int),(bls st0 recs)[q]? = some b->KB (rd m [] (nx0+q)) b (rd (Xf m (pend nx0 (bls st0 recs)) ks cut) [] (nx0+q))/\(Y9 b).t=st0+q:=by
  intro q b hb;have hql:=(List.getElem?_eq_some_iff.1 hb).1;obtain ⟨h1,h2⟩:=hat q b hb;rw [show st0+((0:Nat):Int)=st0 by omega] at h1 h2
  refine ⟨?_,h1⟩;rw [rd_nil,rd_nil]
  rcases crash_once ks cut (lastK ks (pend nx0 (bls st0 recs)).length) (nx0+q) b _ 0 m I.hm hq (pend_nodup _ _) (pend_at hb) with h | h | ⟨c,hc,h⟩
  ·exact .inl h
  ·exact .inr (.inl h)
  ·have ho:=cur_sml q1 I.sm (nx0+q)
   rcases torn_or ho h2 hc with g | ⟨g1,g2⟩
   ·exact .inl (h.trans g)
   ·refine .inr (.inr ?_)
    have:=torn_none ho (show st0<=st0+q by omega) (by omega) h2 (by omega) h1 g1 g2
    unfold Xf;rw [h];exact this
 obtain ⟨j,nx',last',j1,j2,j3⟩:=crash_run q1 (fun a=>rd_sml q1 I.sm (fun x hx=>by simp at hx) a) I.lt I.stop G1 G2 (by omega) recs 0 last0 hr (by simp) (by omega) (.inl ⟨rfl,rfl⟩)
 rw [show nx0+((0:Nat):Int)=nx0 by omega] at j2
 exact ⟨j,nx',last',j1,(I.run.congr fun x x1 x2=>G1 x (.inl x2)).app j2,j3⟩
theorem pend_one(nx st:Int)(b:List Int):putP st nx b [] (Zo b.length)=pend nx (bls st [b]):=by
 have:=putP_pend st nx b nx [] (by simp) (Zo b.length)
 simpa [pend,bls] using this
theorem opn_S{m:ML}{nx st:Int}{g:ML}(hg:0<g.length)(O:∀ j,400<=j->Zd prog C0 (Z3 prog C0 (j+100)) (j+100) 28 [.ptr 0 0,.int .i64 3,.int .i64 3] ⟨1,[(0,dO 4000 m [])]⟩=some (.tup [.ptr 1 0,opLV 2 g,.nili],opSt 4000 m [] 3 nx st g)):
  OpnF 4000 m (.sl 2 2 0 g.length none) (opS 4000 m [] 3 nx st (Zp g)):=by
 cases g with
 | nil=>simp at hg
 | cons a b=>exact O
theorem cc_ok(l:List Act5)(hok:∀ x∈l,byB x.b/\x.b.length<=1000000000000000)(w:Int)(w0:0<=w)(w1:w<=255)(ks:List Int)(cut:Int)(W:WkF):
  Zd prog C0 (Z3 prog C0 (0+2000)) (0+2000) 7 [.isl 5 (Zf l),.int .u8 w,.isl 1 (ints ks),.int .i64 cut] ⟨0,[]⟩=some (.bool true,⟨0,[]⟩):=by
 cases h9:light9 l with
 | false=>exact cc_heavy 0 l w w0 w1 ks cut W fun j hj=>by rw [light9_ok j hj l fun x hx=>(hok x hx).2,h9]
 | true =>
  have LI:LiF l true:=fun j hj=>by rw [light9_ok j hj l fun x hx=>(hok x hx).2,h9]
  by_cases hks:60<ks.length
  ·exact cc_long 0 l w w0 w1 ks cut W LI hks
  obtain ⟨B,m,p,nx,st,L,last,I,hB,A⟩:=played_any l h9 fun x hx=>(hok x hx).1
  have P:PlF l m p nx st:=A
  have SY:SynF 4000 m (Yn p m) p nx st:=fun j hj=>I.csync (by omega) j hj 4000
  have I1:=I.sync;have O1:=fun j (hj:400<=j)=>I1.open_ (by omega) j hj 4000
  cases hL:L with
  | nil =>
   subst hL;exact cc_none 0 l w w0 w1 ks cut W LI (by omega) m _ p nx st nx _ P SY O1
  | cons z q =>
   have h0:0<L.length:=by rw [hL];simp
   have hll:=I.run.length;have hnx:=I.nxB;have O1':OpnF 4000 (Yn p m) (.sl 2 2 0 L.length none) (opS 4000 (Yn p m) [] 3 nx (topS 3 (Yn p m) (last+1)) (Zp L)):=by
    rw [hL] at O1 ⊢;exact O1
   clear O1
   have hmod:w.tmod (L.length:Int)=w % (L.length:Int):=Int.tmod_eq_emod_of_nonneg w0;have hm1:=Int.emod_nonneg w (show (L.length:Int)≠0 by omega)
   have hm2:=Int.emod_lt_of_pos w (show (0:Int)<(L.length:Int) by omega)
   obtain ⟨K,hK⟩:=Int.eq_ofNat_of_zero_le hm1;rw [hK] at hmod hm2;have hKl:K<L.length:=by omega
   have hLx:L[K]? = some L[K]:=List.getElem?_eq_getElem hKl;generalize L[K]=y at hLx;have hx:(Zp L)[((K:Int)).toNat]? = some (.agg [.int .i64 y.1,.isl 1 (bys y.2)]):=by simpa using lksL_at hLx
   obtain ⟨c1,c2,I2⟩:=I1.cut (k:=K) (at_:=y.1) (o:=y.2) hLx (by omega)
   have CU:CutF 4000 (Yn p m) _ [] nx st y.1:=fun j hj=>I1.cutF c1 c2 (by omega) j hj
   have hb:byB [1,2]:=by intro x hx;simp at hx;omega
   have hN:Zo ([1,2]:List Int).length=1:=rfl;have I3:=I2.append (b:=[1,2]) (by simp) (by simp) hb (by rw [hN];omega)
   have AP:AppF 4000 _ [] _ (y.1+1) (st+1) _ _ [1,2] (.tup [.int .i64 (y.1+1),.nili]):=fun j hj=>I2.appendF (b:=[1,2]) (by simp) (by simp) (by rw [hN];omega) j hj
   have e1:=pend_one (y.1+1) (st+1) [1,2];rw [e1] at I3 AP;have CR:CraF 4000 _ (Xf _ _ ks cut) _ ks cut:=fun j hj=>I3.crash (by rw [hN];omega) j hj 4000 ks cut
   obtain ⟨z1,z2,z3,z4⟩:=I3.lost ks cut;have I4:=CI.fresh z1 z2 I3.pos.2.1 I3.stB (by rw [hN];omega) z3 z4
   have O2:=fun j (hj:400<=j)=>fresh_open j hj 4000 z1 z2 I3.pos.2.1 (by rw [hN];omega) z3 z4
   obtain ⟨jj,nx',last',j1,j2,j3⟩:=crash_all I2 (recs:=[[1,2]]) (fun b hb'=>by rw [List.mem_singleton.1 hb'];exact ⟨by simp,by simp,hb⟩) (by show B+1+(Zo _+0)<=255;rw [hN];omega) I3.hq ks cut
   have hnx4:=I4.nxB;have hl4:=I4.run.length;have hbd:nx'-3<=((B+1+Zo ([1,2]:List Int).length:Nat):Int):=by
    have:=j2.nx_le (A:=3+((B+1+Zo ([1,2]:List Int).length:Nat):Int)) (fun x hx=>rd_zero fun y hy e=>by have:=z3 y hy;omega) (by omega) (by omega)
    omega
   have hlinks:=j2.links j3 (B+1+Zo ([1,2]:List Int).length) (by omega)
   rw [hlinks] at O2 hl4 hnx4;simp only at O2 hl4 hnx4;have hgl:(L.take K).length=K:=by simp;omega
   simp only [List.length_cons,List.length_nil] at j1;have hj:jj=0∨jj=1:=by omega
   rcases hj with rfl | rfl
   ·simp only [List.take_zero,List.append_nil] at O2
    by_cases hK0:K=0
    ·have hg:L.take K=[]:=by rw [hK0];rfl
     rw [hg] at O2;exact cc_N 0 l w w0 w1 ks cut W LI (by omega) m _ p nx st nx _ P SY L (by rw [hL];simp) (by omega) O1' (by rw [hmod,hK0];rfl) (by omega) y.1 y.2 (by rw [hK0] at hx;exact hx) _ _ _ _ _ _ _ (by omega) (by omega) CU AP CR O2
    ·have hg0:0<(L.take K).length:=by omega
     have O2':=opn_S hg0 O2;exact cc_K 0 l w w0 w1 ks cut W LI (by omega) m _ p nx st nx _ P SY L (by rw [hL];simp) (by omega) O1' (K:Int) (by omega) hmod hm2 y.1 y.2 hx _ _ _ _ _ _ _ (by omega) (by omega) CU AP CR (L.take K) (by omega) O2'
      (fun j hj=>by rw [Int.toNat_natCast];exact s9_ok j (L.take K) L K (by omega) (by omega) (by omega) (by rw [List.take_take,Nat.min_self]) (by omega)) (by omega)
   ·have hr:(recI (y.1+1) [[1,2]]).take 1=[(y.1+1,[1,2])]:=rfl
    rw [hr] at O2;have hg1:(L.take K++[(y.1+1,([1,2]:List Int))]).length=K+1:=by rw [List.length_append,hgl];rfl
    have hy:(L.take K++[(y.1+1,([1,2]:List Int))])[K]? = some (y.1+1,[1,2]):=by
     rw [List.getElem?_append_right (by omega),hgl,Nat.sub_self];rfl
    have htk:(L.take K++[(y.1+1,([1,2]:List Int))]).take K=L.take K:=by
     rw [List.take_append_of_le_length (by omega),List.take_take,Nat.min_self]
    have O2':=opn_S (by rw [hg1];omega) O2
    exact cc_K1 0 l w w0 w1 ks cut W LI (by omega) m _ p nx st nx _ P SY L (by rw [hL];simp) (by omega) O1' (K:Int) (by omega) hmod hm2 y.1 y.2 hx _ _ _ _ _ _ _ (by omega) (by omega) CU AP CR _ (by omega) O2'
     (fun j hj=>by rw [Int.toNat_natCast];exact s9_ok j _ L K (by omega) (by omega) (by omega) htk (by omega)) (by omega) (by rw [Int.toNat_natCast];exact lksL_at hy)
end Go.Mac
namespace Go.Mac
open Go Go.Eng Go.Proofs
open Go.IntKind (i64)
open Go.Proofs.Try (prog)
set_option maxHeartbeats 0
set_option maxRecDepth 100000
def C1:Cfg:=⟨fun _=>none,fun f=>f==40⟩
theorem right_ok1(n:Nat)(at_:Int)(h:0<=at_)(h2:at_<=1073741824):Zd prog C1 (Z3 prog C1 (n+9)) (n+9) 44 [.int .i64 at_] ⟨0,[]⟩=some (.nili,⟨0,[]⟩):=by
 have f1:decide (at_<0)=false:=by simp;omega
 have f2:LV.bool (if decide (at_<0)=true then true else decide (1073741824<at_))=LV.bool false:=by simp;omega
 exact drn (fun h=>ai (congrArg some f1)<|ai (congrArg some f1)<|ai (f2)<|h) (.s (.a) (.s (.s (.r [.a,.a,.a,.g false (.a),.g false (.a),.v (vOf f2) (.a)]) (.a)) (.a))) [] .a (by kernel_rfl)
theorem right_no1(n:Nat)(at_:Int)(h:at_<0∨1073741824<at_):Zd prog C1 (Z3 prog C1 (n+9)) (n+9) 44 [.int .i64 at_] ⟨0,[]⟩=some (.ifc 115 (.agg [.str [98,108,111,99,107],.int .i64 at_,.ifc 71 (.int .i64 2)]),⟨0,[]⟩):=by
 by_cases h1:at_<0
 ·have f1:decide (at_<0)=true:=by simp;omega
  have f2:Wa (decide (at_<0)) (LV.bool true) LV.any=some (LV.bool true):=by simp;omega
  exact drn (fun h=>ai (congrArg some f1)<|ai (congrArg some f1)<|ai (Yp (st:=(St.mk 0 [])) f2)<|h) (.s (.a) (.s (.s (.r [.a,.a,.a,.g true (.a),.g true (.a),.t (rOf (Yp (st:=(St.mk 0 [])) f2))]) (.a)) .a)) [] .a (by kernel_rfl)
 ·have:1073741824<at_:=by omega
  have f1:decide (at_<0)=false:=by simp;omega
  have f2:LV.bool (if decide (at_<0)=true then true else decide (1073741824<at_))=LV.bool true:=by simp;omega
  exact drn (fun h=>ai (congrArg some f1)<|ai (congrArg some f1)<|ai (f2)<|h) (.s (.a) (.s (.s (.r [.a,.a,.a,.g false (.a),.g false (.a),.v (vOf f2) (.a)]) (.a)) .a)) [] .a (by kernel_rfl)
theorem whole_ok1(n:Nat)(b:List Int):Zd prog C1 (Z3 prog C1 (n+9)) (n+9) 40 [.isl 1 (bys b)] ⟨0,[]⟩=some (.sl 1 0 0 64 none,⟨1,[(0,.row 5 1 (bys (blk b)))]⟩):=by
 have f1:Yx true 1 (Zi (bys b))=true:=by simp
 have f2:64<=64:=by omega
 have f3:LV.int i64 (↑(min (List.length (Zi (bys b))) 64):Int)=LV.int i64 (↑(min (List.length b) 64):Int):=by simp
 have f4:LObj.row 5 1 (Z7 (List.replicate 64 (LV.int IntKind.u8 0)) 0 (List.take (min (List.length (Zi (bys b))) 64) (Zi (bys b))))=LObj.row 5 1 (bys (Z6 (List.replicate 64 0) 0 (List.take (min (List.length b) 64) b))):=by simp
 exact drn (fun h=>ai (f1)<|ai (f2)<|ai (f3)<|ai (congrArg some f4)<|h) (.s (.a) (.s (.a) (.s (.r [.a,.a,.x 0 (vOf f4) (.v (vOf f3) (.q))]) (.a)))) [] .a (by kernel_rfl)
theorem whole_nil1(n:Nat):Zd prog C1 (Z3 prog C1 (n+9)) (n+9) 40 [.nils] ⟨0,[]⟩=some (.sl 1 0 0 64 none,⟨1,[(0,.row 5 1 (bys (blk [])))]⟩):=by
 exact drn (fun h=>h) (.a) [] .a (by kernel_rfl)
end Go.Mac
namespace Go.Proofs.Ytddbfjgodbfaoaa.T
open Go Go.Eng Go.Mac Go.Proofs.Ytddbfjgodbfaoaa.Ty
theorem extC1:ExtSound Try.prog C1:=fun f F h=>by simp [C1] at h
theorem mixed:Try.prog.follows .mixedOrders=true:=by kernel_rfl
def R1:Inst:=⟨id,id,fun _=>false⟩
theorem Meets.wkpost{P:Program}{f:FuncId}{as_:List AV}{s:Hp}{K:AV->Hp->Prop}(h:Meets P f as_ s (fun r t=>∃ r' t',Wk r r'/\HpWk t t'/\K r' t')):Meets P f as_ s K:=
 Meets.sw (h.mono fun r t ⟨r',t',h1,h2,h3⟩=>⟨r',t',SW.wk (fun _=>h1) h2,h3⟩)
theorem meets_run{n:Nat}{f:FuncId}{as_:List LV}{v:LV}{st:St}(h:Zd Try.prog C1 (Z3 Try.prog C1 n) n f as_ ⟨0,[]⟩=some (v,st))(hr:Z9 as_=[]){K:AV->Hp->Prop}(hk:∀ R t,SRel Try.prog R st t->(∀ b∈Z5 v,b<st.next)->K (Z0 R true v) t):Meets Try.prog f (Z1 R1 true as_) [] K:=by
 have:=lrun_sound extC1 mixed (lcall_sound extC1 mixed n) h R1 [] (SRel.empty _ _) (by rw [hr];simp)
 refine Meets.wkpost (this.mono ?_);rintro r t ⟨R',s',_,_,g3,g4,g5,g6⟩;exact ⟨_,s',g3,g5,hk R' s' g6 g4⟩
theorem right_av(at_:Int)(h:0<=at_/\at_<=1073741824)(s:Hp)(K:AV->Hp->Prop)(hk:K (.v .nilIface) s):Meets Try.prog 44 [.v (.int .i64 at_)] s K:=by
 refine Meets.alone ?_
 have:=meets_run (K:=fun r t=>K r s) (right_ok1 0 at_ h.1 h.2) (by simp [Z9,Z5]) (fun R t ht _=>by simpa [Z0] using hk)
 simpa [Z1,Z0] using this
theorem right_av_no(at_:Int)(h:at_<0∨1073741824<at_)(s:Hp)(K:AV->Hp->Prop)(hk:K (.ifc 115 (.agg [.v (.string ⟨#[98,108,111,99,107]⟩),.v (.int .i64 at_),.v (.iface 71 (.int .i64 2))])) s):Meets Try.prog 44 [.v (.int .i64 at_)] s K:=by
 refine Meets.alone ?_
 have:=meets_run (K:=fun r t=>K r s) (right_no1 0 at_ h) (by simp [Z9,Z5]) (fun R t ht _=>by simpa [Z0,Z1,mkIfc] using hk)
 simpa [Z1,Z0] using this
def cel(b:List Int):List AV:=b.map fun n=>.v (.int .u8 n)
theorem cel_bys(R:Inst)(l:Bool)(b:List Int):Z1 R l (bys b)=cel b:=by
 rw [Zu];unfold bys cel;rw [List.map_map];apply List.map_congr_left;intro x _
 cases l <;> simp [Z0]
theorem cel_flat(b:List Int):(cel b).flatMap cellsOf=cel b:=by
 unfold cel
 induction b with
 | nil=>rfl
 | cons x b ih=>rw [List.map_cons,List.flatMap_cons,ih];rfl
theorem whole_end{b:List Int}{R:Inst}{t:Hp}(ht:SRel Try.prog R ⟨1,[(0,.row 5 1 (bys (blk b)))]⟩ t):
  ∃ q cap,64<=cap/\cap<=maxLen/\Z0 R true (.sl 1 0 0 64 none)=.v (.slice (some ⟨q,0,none⟩) 64 cap)/\t=[(q,.cells 5 (cel (blk b)) (cap*1))]:=by
 have he:=ht.ents
 cases he with
 | cons ho hrest =>
  cases hrest
  generalize hx:bys (blk b)=xs at ho;have hxl:xs.length=64:=by rw [<- hx];simp
  cases ho with
  | rowNil _ _ hz=>simp at hxl
  | row _ _ _ hz ok =>
   subst hx;refine ⟨R.ρ 0,R.κ 0,?_,ok.cap,?_,?_⟩
   ·have:=ok.le;rw [hxl] at this;exact this
   ·simp [Z0,Y0,hz]
   ·rw [cel_bys,cel_flat];rfl
theorem whole_av(b:List Int)(s:Hp)(K:AV->Hp->Prop)(hk:∀ q cap,q∉s.keys->64<=cap->cap<=maxLen->K (.v (.slice (some ⟨q,0,none⟩) 64 cap)) ((q,.cells 5 (cel (blk b)) (cap*1))::s)):
  Meets Try.prog 40 [.sl 1 (cel b)] s K:=by
 have h0:Meets Try.prog 40 [.sl 1 (cel b)] [] (fun r t=>∃ q cap,64<=cap/\cap<=maxLen/\r=.v (.slice (some ⟨q,0,none⟩) 64 cap)/\t=[(q,.cells 5 (cel (blk b)) (cap*1))]):=by
  have:=meets_run (K:=fun r t=>∃ q cap,64<=cap/\cap<=maxLen/\r=.v (.slice (some ⟨q,0,none⟩) 64 cap)/\t=[(q,.cells 5 (cel (blk b)) (cap*1))]) (whole_ok1 0 b) (by simp [Z9,Z5]) (fun R t ht _=>by
   obtain ⟨q,cap,h1,h2,h3,h4⟩:=whole_end ht;exact ⟨q,cap,h1,h2,h3,h4⟩)
  simpa [Z1,Z0,cel_bys] using this
 refine Meets.kn (Meets.frame (s:=[]) (t:=s) (h0.mono ?_));rintro r t ⟨q,cap,h1,h2,rfl,rfl⟩;intro hn;exact hk q cap (List.nodup_cons.1 hn).1 h1 h2
theorem whole_av_nil(s:Hp)(K:AV->Hp->Prop)(hk:∀ q cap,q∉s.keys->64<=cap->cap<=maxLen->K (.v (.slice (some ⟨q,0,none⟩) 64 cap)) ((q,.cells 5 (cel (blk [])) (cap*1))::s)):
  Meets Try.prog 40 [.v (.slice none 0 0)] s K:=by
 have h0:Meets Try.prog 40 [.v (.slice none 0 0)] [] (fun r t=>∃ q cap,64<=cap/\cap<=maxLen/\r=.v (.slice (some ⟨q,0,none⟩) 64 cap)/\t=[(q,.cells 5 (cel (blk [])) (cap*1))]):=by
  have:=meets_run (K:=fun r t=>∃ q cap,64<=cap/\cap<=maxLen/\r=.v (.slice (some ⟨q,0,none⟩) 64 cap)/\t=[(q,.cells 5 (cel (blk [])) (cap*1))]) (whole_nil1 0) (by simp [Z9,Z5]) (fun R t ht _=>by
   obtain ⟨q,cap,h1,h2,h3,h4⟩:=whole_end ht;exact ⟨q,cap,h1,h2,h3,h4⟩)
  simpa [Z1,Z0] using this
 refine Meets.kn (Meets.frame (s:=[]) (t:=s) (h0.mono ?_));rintro r t ⟨q,cap,h1,h2,rfl,rfl⟩;intro hn;exact hk q cap (List.nodup_cons.1 hn).1 h1 h2
def optC:Option (List Int)->AV
 | none=>.v (.slice none 0 0)
 | some b=>.sl 1 (cel b)
theorem optC_one(w:Option (List Int)):(optC w).one=true:=by cases w <;> rfl
theorem whole_any(o:Option (List Int))(s:Hp)(K:AV->Hp->Prop)(hk:∀ q cap,q∉s.keys->64<=cap->cap<=maxLen->K (.v (.slice (some ⟨q,0,none⟩) 64 cap)) ((q,.cells 5 (cel (blk (o.getD []))) (cap*1))::s)):
  Meets Try.prog 40 [optC o] s K:=by
 cases o with
 | none=>exact whole_av_nil s K hk
 | some b=>exact whole_av b s K hk
def pC(w:Int × Option (List Int)):AV:=.agg [.v (.int .i64 w.1),optC w.2]
def lastC(at_:Int):List (Int × Option (List Int))->Option (Option (List Int))
 | []=>none
 | (a,b)::l=>match lastC at_ l with
  | some x=>some x
  | none=>if a=at_ then some b else none
theorem lastC_take{at_:Int}:∀ {ps:List (Int × Option (List Int))} {i:Nat},(∀ j (h:j<ps.length),i<j->ps[j].1≠at_)->(h:i<ps.length)->ps[i].1=at_->lastC at_ ps=some ps[i].2
 | [],i,_,h,_=>by simp at h
 | (a,b)::l,0,hn,h,he=>by
  have hl:∀ l:List (Int × Option (List Int)),(∀ x∈l,x.1≠at_)->lastC at_ l=none:=by
   intro l
   induction l with
   | nil=>intro _;rfl
   | cons x l ih =>
    intro hx;unfold lastC;rw [ih (fun y hy=>hx y (List.mem_cons_of_mem _ hy)),if_neg (hx x List.mem_cons_self)]
  have:lastC at_ l=none:=hl l (fun x hx=>by
   obtain ⟨j,hj,rfl⟩:=List.mem_iff_getElem.1 hx;exact hn (j+1) (by simpa using hj) (by omega))
  have he':a=at_:=he;unfold lastC;rw [this,if_pos he']
  rfl
 | (a,b)::l,i+1,hn,h,he=>by
  have:=lastC_take (ps:=l) (i:=i) (fun j hj hij=>by have:=hn (j+1) (by simpa using hj) (by omega);simpa using this) (by simpa using h) (by simpa using he)
  unfold lastC;rw [this]
  rfl
theorem lastC_none{at_:Int}:∀ {l:List (Int × Option (List Int))},(∀ x∈l,x.1≠at_)->lastC at_ l=none
 | [],_=>rfl
 | x::l,hx=>by
  unfold lastC;rw [lastC_none (fun y hy=>hx y (List.mem_cons_of_mem _ hy)),if_neg (hx x List.mem_cons_self)]
def readC(at_:Int)(es:List (Int × List Int))(ps:List (Int × Option (List Int))):List Int:=
 match lastC at_ ps with
 | some o=>blk (o.getD [])
 | none=>blk ((Pl.pget es at_).getD [])
def mC(es:List (Int × List Int)):List (Int × AV):=Pl.gmap (fun b=>.sl 1 (cel b)) es
end Go.Proofs.Ytddbfjgodbfaoaa.T
namespace Go.Proofs.Ytddbfjgodbfaoaa.T
open Go Go.Eng Go.Proofs.Ytddbfjgodbfaoaa.Ty
theorem back_av(xs:List AV)(s:Hp)(K:AV->Hp->Prop)(hk:∀ p,p∉s.keys->K (.v (.func (.func 62) #[] #[.pointer (some ⟨p,0,none⟩)])) ((p,.cells 75 [.sl 2 xs] 1)::s)):
  Meets Try.prog 46 [.sl 2 xs] s K:=by
 have h0:Meets Try.prog 46 [.sl 2 xs] [] (fun r t=>∃ p,r=.v (.func (.func 62) #[] #[.pointer (some ⟨p,0,none⟩)])/\t=[(p,.cells 75 [.sl 2 xs] 1)]):=by
  obtain ⟨K',hK'⟩:∃ K':AV->Hp->Prop,K'=(fun r t=>∃ p,r=.v (.func (.func 62) #[] #[.pointer (some ⟨p,0,none⟩)])/\t=[(p,.cells 75 [.sl 2 xs] 1)]):=⟨_,rfl⟩
  rw [<- hK'];refine Meets.body Try.func46 rfl rfl (by simp [Try.ntmps46]) ?_
  repeat' (first | refine AW.seq ?_ | ((first | refine AW.reg (by rfl) ?_ | refine AW.skip ?_ | refine AW.ret ?_ | refine AW.exit ?_);simp only [undef,Yj,aop,ev,ofValue,Zh,Y3,Xa,List.getD_cons_zero,cells_sl,List.length_cons,List.length_nil,List.all_cons,List.all_nil,one_sl,Bool.and_self,true_and,Nat.zero_add,abox,Zk,forall_const,Try.results46]) | refine AW.block ?_ | with_reducible refine AW.condT rfl ?_ | with_reducible refine AW.condF rfl ?_)
  intro p
  repeat' (first | refine AW.seq ?_ | ((first | refine AW.reg (by rfl) ?_ | refine AW.skip ?_ | refine AW.ret ?_ | refine AW.exit ?_);simp only [Yj,aop,ev,Zh,Y3,APost,ares,Y8,Za,Nat.reduceEqDiff,↓reduceIte,List.map_cons,List.map_nil,amakeFunc,Yg,Option.map_some]) | refine AW.block ?_ | with_reducible refine AW.condT rfl ?_ | with_reducible refine AW.condF rfl ?_)
  rw [hK'];exact ⟨p,rfl,rfl⟩
 refine Meets.kn (Meets.frame (s:=[]) (t:=s) (h0.mono ?_));rintro r t ⟨p,rfl,rfl⟩;intro hn;exact hk p (List.nodup_cons.1 hn).1
theorem read_av(rm at_:Int)(h:0<=at_/\at_<=1073741824)(es:List (Int × List Int))(ps:List (Int × Option (List Int)))(hlen:ps.length<=1048576):
  Meets Try.prog 21 [.rp (.agg [.v (.int .i64 rm),.mp .i64 (mC es),.sl 2 (ps.map pC)]),.v (.int .i64 at_)] [] (fun r t=>∃ q cap t',64<=cap/\cap<=maxLen/\r=.tup [.v (.slice (some ⟨q,0,none⟩) 64 cap),.v .nilIface]/\t'=[(q,.cells 5 (cel (readC at_ es ps)) (cap*1))]/\t'.Sublist t):=by
 obtain ⟨K',hK'⟩:∃ K':AV->Hp->Prop,K'=(fun r t=>∃ q cap t',64<=cap/\cap<=maxLen/\r=.tup [.v (.slice (some ⟨q,0,none⟩) 64 cap),.v .nilIface]/\t'=[(q,.cells 5 (cel (readC at_ es ps)) (cap*1))]/\t'.Sublist t):=⟨_,rfl⟩
 rw [<- hK'];refine Meets.body Try.func21 rfl rfl (by simp [Try.ntmps21]) ?_
 repeat' (first | refine AW.seq ?_ | ((first | refine AW.reg (by rfl) ?_ | refine AW.skip ?_ | refine AW.ret ?_ | refine AW.exit ?_);simp only [undef,Yj,aop,ev,Zh,Y3,Xa,List.getD_cons_zero,List.getD_cons_succ,Value.cells,cells_v,List.map_cons,List.map_nil,List.length_cons,List.length_nil,List.all_cons,List.all_nil,one_v,Value.oneCell',Bool.and_self,true_and,and_true,Nat.zero_add,abox,aalloc,ne_eq,List.size_toArray,Zk,Zt,and_imp,forall_const,zero_23,zero_29,Try.results21]) | refine AW.block ?_ | with_reducible refine AW.condT rfl ?_ | with_reducible refine AW.condF rfl ?_)
 intro b3 b4 h43 b5 h54 h53
 repeat' (first | refine AW.seq ?_ | ((first | refine AW.reg (by rfl) ?_ | refine AW.skip ?_ | refine AW.ret ?_ | refine AW.exit ?_);simp only [Yj,aop,acall,ev,Zh,Y3,Za,Nat.reduceEqDiff,↓reduceIte,List.map_cons,List.map_nil,List.nil_append,List.append_nil,List.getElem?_cons_zero,Xc,Xg,W6,Zq,agg_3,h43,h53]) | refine AW.block ?_ | with_reducible refine AW.condT rfl ?_ | with_reducible refine AW.condF rfl ?_)
 refine right_av at_ h _ _ ?_
 skip
 repeat' (first | refine AW.seq ?_ | ((first | refine AW.reg (by rfl) ?_ | refine AW.skip ?_ | refine AW.ret ?_ | refine AW.exit ?_);simp only [undef,Yj,aop,acall,ev,ofValue,Zh,Y3,Za,Xa,↓reduceIte,List.getD_cons_zero,List.map_cons,List.map_nil,List.nil_append,List.append_nil,List.getElem?_cons_zero,List.getElem?_cons_succ,true_and,Xc,Xg,W6,Xd,anil,isNilC,Yb,rpart,reduceCtorEq,Bool.not_true,Wg,field_77_2,agg_75,rpart]) | refine AW.block ?_ | with_reducible refine AW.condT rfl ?_ | with_reducible refine AW.condF rfl ?_)
 refine ⟨rfl,?_⟩;refine back_av _ _ _ ?_
 intro p hp;simp only [Zt,Zk,and_true] at hp;obtain ⟨hp5,hp4,hp3⟩:=hp
 skip
 repeat' (first | refine AW.seq ?_ | refine AW.block ?_ | with_reducible refine AW.condT rfl ?_ | with_reducible refine AW.condF rfl ?_)
 refine AW.gen fun e hE=>?_
 have e0:e 0=.rp (.agg [.v (.int .i64 rm),.mp .i64 (mC es),.sl 2 (ps.map pC)]):=hE 0;have e3:e 3=.v (.pointer (some ⟨b3,0,none⟩)):=hE 3;have e4:e 4=.v (.pointer (some ⟨b4,0,none⟩)):=hE 4;have e5:e 5=.v (.pointer (some ⟨b5,0,none⟩)):=hE 5;have e18:e 18=.v (.func (.func 62) #[] #[.pointer (some ⟨p,0,none⟩)]):=hE 18
 clear hE
 refine AW.rangeFunc 62 #[] #[.pointer (some ⟨p,0,none⟩)] e18 ⟨_,_,Try.func62,rfl,by kernel_rfl⟩ ?_
 intro l rec hl hr1 hr2 hr3 hr4 hr5;simp only [Zt,Zk,and_true] at hl;obtain ⟨hlp,hl5,hl4,hl3⟩:=hl;refine Meets.nodup fun hnd=>?_
 generalize hQ:RfEnd _ _ _ _ _ _=K2
 show Meets _ _ [.v (.func (.yield l) #[] #[]),.v (.pointer (some ⟨p,0,none⟩))] _ _
 refine Meets.body Try.func62 rfl rfl (by simp [Try.ntmps62]) ?_
 repeat' (first | refine AW.seq ?_ | ((first | refine AW.reg (by rfl) ?_ | refine AW.skip ?_ | refine AW.ret ?_ | refine AW.exit ?_);simp only [undef,Yj,aop,acall,ev,ofValue,Zh,Y3,Za,Xa,↓reduceIte,List.getD_cons_zero,List.getD_cons_succ,List.getElem?_cons_zero,true_and,Xc,Xg,W6,Xd,aint,alen,Zq,List.length_map,agg_75,elem_75,Try.results62,hlp]) | refine AW.block ?_ | with_reducible refine AW.condT rfl ?_ | with_reducible refine AW.condF rfl ?_)
 have hlen2:IntKind.i64.wrap ((ps.length:Int)-1)=(ps.length:Int)-1:=wrap_i64 (by omega) (by omega)
 obtain ⟨S0,hS0⟩:∃ S0:Hp,S0=[(p,.cells 75 [.sl 2 (ps.map pC)] 1),(b5,.cells 29 [.v .nilIface] 1),(b4,.cells 23 [.v (.slice none 0 0)] 1),(b3,.cells 3 [.v (.int .i64 at_)] 1)]:=⟨_,rfl⟩;obtain ⟨H,hH⟩:∃ H:Nat->Env->Hp->Prop,H=fun mm e' st=>∃ (i:Nat),i<=ps.length/\st=(l,.lp rec Try.f21.ntmps e)::S0/\mm=i/\e' 0=.v (.func (.yield l) #[] #[])/\e' 1=.v (.pointer (some ⟨p,0,none⟩))/\e' 3=.v (.int .i64 ((i:Int)-1)) /\
   (∀ j (h:j<ps.length),i<=j->ps[j].1≠at_):=⟨_,rfl⟩
 refine (AW.loop H ps.length ?_ ?_)
 ·rw [hH,hS0]
  exact ⟨ps.length,Nat.le_refl _,rfl,rfl,rfl,rfl,by simp only [Za];rw [if_pos trivial,hlen2],fun j h hj=>absurd hj (by omega)⟩
 intro mm e' st hst;rw [hH] at hst;obtain ⟨i,hi,rfl,rfl,f0,f1,f3,hno⟩:=hst
 cases mm with
 | zero =>
  have hge:decide (0<=((0:Nat):Int)-1)=false:=by simp
  repeat' (first | refine AW.seq ?_ | ((first | refine AW.reg (by rfl) ?_ | refine AW.skip ?_ | refine AW.ret ?_ | refine AW.exit ?_);simp only [Yj,aop,ev,ofValue,Zh,Y3,Xo,APost,ares,Za,↓reduceIte,true_and,Xd,aint,Int.cast_ofNat_Int,Int.reduceLE,Int.reduceSub,Int.reduceNeg,decide_false,f3]) | refine AW.block ?_ | with_reducible refine AW.condT rfl ?_ | with_reducible refine AW.condF rfl ?_)
  rw [<- hQ];refine ⟨S0,rec,rfl,by rw [hr1];simp,?_⟩
  rw [hr2];simp only [Xo,Y3];refine AW.seq ?_
  refine AW.drw 5 rfl rfl rfl ?_
  rw [hS0];simp only [undef,Yj,aop,acall,ev,ofValue,Zh,put_none,Y3,Za,Nat.reduceEqDiff,↓reduceIte,cells_v,splice,List.map_cons,List.map_nil,List.length_cons,List.length_nil,List.take_succ_cons,List.take_zero,List.drop_succ_cons,List.drop_zero,List.nil_append,List.cons_append,List.append_nil,List.getElem?_cons_zero,List.getElem?_cons_succ,List.all_cons,List.all_nil,one_v,Value.oneCell',Bool.and_self,true_and,and_true,Nat.zero_add,Xc,Xg,W6,gndL,astore,Yb,rpart,alookup,Option.map_some,Zq,Zk,hp_get_out,Bool.false_eq_true,qops,qop,exists_eq_left',and_assoc,exists_and_left,agg_3,zero_23,agg_23,agg_29,field_77_1,agg_74,map_74,e0,e3,e4,e5,rpart,h43,h53,hp3];refine ⟨rfl,?_⟩;have hmg:Eng.mget (mC es) at_=(Pl.pget es at_).map (fun b=>.sl 1 (cel b)):=Pl.mget_gmap _ _ _
  have hlast:lastC at_ ps=none:=lastC_none (fun x hx=>by
   obtain ⟨j,hj,rfl⟩:=List.mem_iff_getElem.1 hx;exact hno j hj (Nat.zero_le _))
  have fin:∀ (b:List Int),(Pl.pget es at_).getD []=b->∀ (q cap:Nat) (t:Hp),64<=cap->cap<=maxLen->[(q,AObj.cells 5 (cel (Mac.blk b)) (cap*1))].Sublist t->K' (.tup [.v (.slice (some ⟨q,0,none⟩) 64 cap),.v .nilIface]) t:=by
   intro b hb q cap t h1 h2 h3;rw [hK'];refine ⟨q,cap,_,h1,h2,rfl,rfl,?_⟩;unfold readC;rw [hlast];simp only [hb];exact h3
  rw [hmg]
  cases hpg:Pl.pget es at_ with
  | none =>
   simp only [Option.map_none];refine whole_av_nil _ _ ?_
   intro q cap hq h64 hmx;simp only [Zt,Zk,and_true] at hq;obtain ⟨hqp,hq5,hq4,hq3⟩:=hq
   try simp only [↓reduceIte,cells_v,List.length_cons,List.length_nil,List.drop_succ_cons,List.drop_nil,List.append_nil,List.all_cons,List.all_nil,one_v,Value.oneCell',Bool.and_self,true_and,and_true,Nat.zero_add,Nat.le_refl,ne_eq,not_false_eq_true,Zq,Zk,Zt,X3,Ym,Nat.mul_one,h43,h54,h53,hp5,hp4,hq5,hq4]
   repeat' (first | refine AW.seq ?_ | ((first | refine AW.reg (by rfl) ?_ | refine AW.skip ?_ | refine AW.ret ?_ | refine AW.exit ?_);simp only [APost,ares,Y8,Za,Nat.reduceEqDiff,↓reduceIte,List.getElem?_cons_zero,Xc,Zq,agg_23,agg_29,e4,e5,h54,hp5,hp4,hq5,hq4]) | refine AW.block ?_ | with_reducible refine AW.condT rfl ?_ | with_reducible refine AW.condF rfl ?_)
   refine fin [] (by rw [hpg];rfl) q cap _ h64 hmx ?_
   rw [Nat.mul_one];exact .cons_cons _ (List.nil_sublist _)
  | some bb =>
   simp only [Option.map_some];refine whole_av bb _ _ ?_
   intro q cap hq h64 hmx;simp only [Zt,Zk,and_true] at hq;obtain ⟨hqp,hq5,hq4,hq3⟩:=hq
   try simp only [↓reduceIte,cells_v,List.length_cons,List.length_nil,List.drop_succ_cons,List.drop_nil,List.append_nil,List.all_cons,List.all_nil,one_v,Value.oneCell',Bool.and_self,true_and,and_true,Nat.zero_add,Nat.le_refl,ne_eq,not_false_eq_true,Zq,Zk,Zt,X3,Ym,Nat.mul_one,h43,h54,h53,hp5,hp4,hq5,hq4]
   repeat' (first | refine AW.seq ?_ | ((first | refine AW.reg (by rfl) ?_ | refine AW.skip ?_ | refine AW.ret ?_ | refine AW.exit ?_);simp only [APost,ares,Y8,Za,Nat.reduceEqDiff,↓reduceIte,List.getElem?_cons_zero,Xc,Zq,agg_23,agg_29,e4,e5,h54,hp5,hp4,hq5,hq4]) | refine AW.block ?_ | with_reducible refine AW.condT rfl ?_ | with_reducible refine AW.condF rfl ?_)
   refine fin bb (by rw [hpg];rfl) q cap _ h64 hmx ?_
   rw [Nat.mul_one];exact .cons_cons _ (List.nil_sublist _)
 | succ i =>
  have hge:decide (0<=((i+1:Nat):Int)-1)=true:=by simp
  refine AW.seq ?_
  refine AW.seq ?_
  refine AW.reg (by rfl) ?_
  simp only [Yj,aop,ev,ofValue,Zh,Y3,Za,↓reduceIte,true_and,Xd,aint,f3];refine AW.condT (by simp only [ev,Za,if_true];rw [hge]) ?_
  refine AW.skip ?_
  simp only [Y3];refine AW.seq ?_
  refine AW.block ?_
  refine AW.seq ?_
  refine AW.yield 6 (by rfl) ?_
  have hlt:i<ps.length:=by omega
  have hidx:(((i+1:Nat):Int)-1).toNat=i:=by omega
  have hat:(ps.map pC).getD i default=.agg [.v (.int .i64 ps[i].1),optC ps[i].2]:=by rw [List.getD_eq_getElem?_getD,List.getElem?_map,List.getElem?_eq_getElem hlt];rfl
  rw [hS0];simp only [ayield,List.take,List.drop,Yj,aop,ev,Zh,Y3,Za,Nat.reduceEqDiff,↓reduceIte,List.map_cons,List.map_nil,List.length_cons,List.length_nil,List.getElem?_cons_zero,List.getElem?_cons_succ,true_and,Nat.reduceAdd,Nat.zero_add,Xc,Xg,W6,aun,aindexAddr,Int.reduceNeg,Zq,reduceCtorEq,List.length_map,and_assoc,agg_75,elem_75,agg_88,f0,f1,f3,hlp,hidx,hat];refine ⟨by omega,by omega,l,rfl,?_⟩
  refine YieldS.of hr1 hr2 (by rw [hr3];rfl) (by rw [hr3];simp [Try.ntmps21]) ?_
  rw [hr4,hr3,hr5];simp only [putAll]
  repeat' (first | refine AW.seq ?_ | ((first | refine AW.reg (by rfl) ?_ | refine AW.skip ?_ | refine AW.ret ?_ | refine AW.exit ?_);simp only [undef,Yj,aop,ev,Zh,put_none,Za,Nat.reduceEqDiff,↓reduceIte,Value.cells,cells_agg,splice,List.map_cons,List.map_nil,List.length_cons,List.length_nil,List.take_zero,List.drop_succ_cons,List.drop_nil,List.nil_append,List.append_nil,List.all_cons,List.all_nil,one_v,Value.oneCell',Bool.and_self,true_and,and_true,Nat.reduceAdd,Nat.zero_add,Nat.le_refl,astore,aalloc,ne_eq,List.size_toArray,Int.reduceNeg,Option.map_some,Zq,Zk,Zt,X3,and_imp,Ym,zero_88,agg_88,optC_one]) | refine AW.block ?_ | with_reducible refine AW.condT rfl ?_ | with_reducible refine AW.condF rfl ?_)
  intro b8 h8p h85 h84 h83
  by_cases he:ps[i].1=at_
  ·have hd:(ps[i].1==at_)=true:=by simpa using he
   have hd2:decide (ps[i].1=at_)=true:=by simpa using he
   repeat' (first | refine AW.seq ?_ | ((first | refine AW.reg (by rfl) ?_ | refine AW.skip ?_ | refine AW.ret ?_ | refine AW.exit ?_);simp only [undef,Yj,aop,acall,ev,ofValue,Zh,put_none,Y3,Za,Nat.reduceEqDiff,↓reduceIte,cells_v,splice,List.map_cons,List.map_nil,List.length_cons,List.length_nil,List.take_zero,List.nil_append,List.cons_append,List.append_nil,List.getElem?_cons_zero,List.getElem?_cons_succ,List.all_cons,List.all_nil,one_v,Value.oneCell',Bool.and_self,true_and,Nat.zero_add,Nat.add_zero,Xc,Xg,W6,astore,Xd,aint,Yb,Int.reduceNeg,Option.map_some,Zq,agg_3,agg_23,agg_29,field_88_0,field_88_1,e3,e4,e5,h43,h53,hp3,h83,Ne.symm h8p,Ne.symm h85,Ne.symm h84,Ne.symm h83,hd2]) | refine AW.block ?_ | with_reducible refine AW.condT rfl ?_ | with_reducible refine AW.condF rfl ?_)
   refine whole_any _ _ _ ?_
   intro q cap hq h64 hmx;simp only [Zt,Zk,and_true] at hq;obtain ⟨hq8,hqp,hq5,hq4,hq3⟩:=hq
   try simp only [↓reduceIte,cells_v,List.length_cons,List.length_nil,List.drop_succ_cons,List.drop_nil,List.append_nil,List.all_cons,List.all_nil,one_v,Value.oneCell',Bool.and_self,true_and,and_true,Nat.zero_add,Nat.le_refl,ne_eq,not_false_eq_true,Int.reduceNeg,Zq,Zk,Zt,X3,Ym,Nat.mul_one,h43,h54,h53,hp5,hp4,h85,h84,hq5,hq4]
   repeat' (first | refine AW.seq ?_ | ((first | refine AW.reg (by rfl) ?_ | refine AW.skip ?_ | refine AW.ret ?_ | refine AW.exit ?_);simp only [Xo,Int.reduceNeg]) | refine AW.block ?_ | with_reducible refine AW.condT rfl ?_ | with_reducible refine AW.condF rfl ?_)
   simp only [YEnd]
   try simp only [Bool.not_false]
   repeat' (first | refine AW.seq ?_ | ((first | refine AW.reg (by rfl) ?_ | refine AW.skip ?_ | refine AW.ret ?_ | refine AW.exit ?_);simp only [Y3,Xo,APost,ares]) | refine AW.block ?_ | with_reducible refine AW.condT rfl ?_ | with_reducible refine AW.condF rfl ?_)
   rw [<- hQ];refine ⟨_,_,rfl,by simp,?_⟩
   simp only
   repeat' (first | refine AW.seq ?_ | ((first | refine AW.reg (by rfl) ?_ | refine AW.skip ?_ | refine AW.ret ?_ | refine AW.exit ?_);simp only [Y3,Xo,APost,ares,Y8,↓reduceIte,List.getElem?_cons_zero,Xc,Zq,agg_23,agg_29,e4,e5,h54,hp5,hp4,h85,h84,hq5,hq4]) | refine AW.block ?_ | with_reducible refine AW.condT rfl ?_ | with_reducible refine AW.condF rfl ?_)
   rw [hK'];refine ⟨q,cap,_,h64,hmx,rfl,rfl,?_⟩;have:readC at_ es ps=Mac.blk (ps[i].2.getD []):=by
    unfold readC;rw [lastC_take (fun j hj hij=>hno j hj (by omega)) hlt he]
   rw [this,Nat.mul_one];exact .cons_cons _ (List.nil_sublist _)
  ·have hd:(ps[i].1==at_)=false:=by simpa using he
   have hd2:decide (ps[i].1=at_)=false:=by simpa using he
   repeat' (first | refine AW.seq ?_ | ((first | refine AW.reg (by rfl) ?_ | refine AW.skip ?_ | refine AW.ret ?_ | refine AW.exit ?_);simp only [Yj,aop,ev,Zh,Y3,Xo,Za,Nat.reduceEqDiff,↓reduceIte,List.getElem?_cons_zero,true_and,Nat.add_zero,Xc,Xg,W6,Xd,aint,Yb,Int.reduceNeg,Zq,agg_3,field_88_0,e3,h43,h53,hp3,h83,Ne.symm h8p,Ne.symm h85,Ne.symm h84,Ne.symm h83,hd2]) | refine AW.block ?_ | with_reducible refine AW.condT rfl ?_ | with_reducible refine AW.condF rfl ?_)
   simp only [YEnd]
   try simp only [Bool.not_true]
   repeat' (first | refine AW.seq ?_ | ((first | refine AW.reg (by rfl) ?_ | refine AW.skip ?_ | refine AW.ret ?_ | refine AW.exit ?_);simp only [Yj,aop,ev,ofValue,Zh,Y3,Xo,Za,Nat.reduceEqDiff,↓reduceIte,true_and,Xd,aint,f3]) | refine AW.block ?_ | with_reducible refine AW.condT rfl ?_ | with_reducible refine AW.condF rfl ?_)
   rw [hH];refine ⟨i,_,by omega,?_,?_,i,by omega,by rw [hS0],rfl,?_,?_,?_,fun j hj hij=>?_⟩
   ·intro x hx
    simp only [List.mem_cons,List.not_mem_nil,or_false] at hx ⊢
    rcases hx with rfl | rfl | rfl | rfl | rfl <;> simp
   ·exact hnd
   ·simp [Za,f0]
   ·simp [Za,f1]
   ·simp only [Za,if_true]
    have:IntKind.i64.wrap (((i+1:Nat):Int)-1-1)=(i:Int)-1:=by rw [wrap_i64 (by omega) (by omega)];omega
    rw [this]
   ·rcases Nat.lt_or_ge i j with h1 | h1
    ·exact hno j hj (by omega)
    ·have:j=i:=by omega
     subst this;exact he
theorem read_err(rm at_:Int)(h:at_<0∨1073741824<at_)(x y:AV)(hy:y.isAgg=false):
  Meets Try.prog 21 [.rp (.agg [.v (.int .i64 rm),x,y]),.v (.int .i64 at_)] [] (fun r t=>r=.tup [.v (.slice none 0 0),.ifc 115 (.agg [.v (.string ⟨#[98,108,111,99,107]⟩),.v (.int .i64 at_),.v (.iface 71 (.int .i64 2))])]):=by
 obtain ⟨K',hK'⟩:∃ K':AV->Hp->Prop,K'=(fun r t=>r=.tup [.v (.slice none 0 0),.ifc 115 (.agg [.v (.string ⟨#[98,108,111,99,107]⟩),.v (.int .i64 at_),.v (.iface 71 (.int .i64 2))])]):=⟨_,rfl⟩
 rw [<- hK'];refine Meets.body Try.func21 rfl rfl (by simp [Try.ntmps21]) ?_
 repeat' (first | refine AW.seq ?_ | ((first | refine AW.reg (by rfl) ?_ | refine AW.skip ?_ | refine AW.ret ?_ | refine AW.exit ?_);simp only [undef,Yj,aop,ev,Zh,Y3,Xa,List.getD_cons_zero,List.getD_cons_succ,Value.cells,cells_v,List.map_cons,List.map_nil,List.length_cons,List.length_nil,List.all_cons,List.all_nil,one_v,Value.oneCell',Bool.and_self,true_and,and_true,Nat.zero_add,abox,aalloc,ne_eq,List.size_toArray,Zk,Zt,and_imp,forall_const,zero_23,zero_29,Try.results21]) | refine AW.block ?_ | with_reducible refine AW.condT rfl ?_ | with_reducible refine AW.condF rfl ?_)
 intro b3 b4 h43 b5 h54 h53
 repeat' (first | refine AW.seq ?_ | ((first | refine AW.reg (by rfl) ?_ | refine AW.skip ?_ | refine AW.ret ?_ | refine AW.exit ?_);simp only [Yj,aop,acall,ev,Zh,Y3,Za,Nat.reduceEqDiff,↓reduceIte,List.map_cons,List.map_nil,List.nil_append,List.append_nil,List.getElem?_cons_zero,Xc,Xg,W6,Zq,agg_3,h43,h53]) | refine AW.block ?_ | with_reducible refine AW.condT rfl ?_ | with_reducible refine AW.condF rfl ?_)
 refine right_av_no at_ h _ _ ?_
 skip
 repeat' (first | refine AW.seq ?_ | ((first | refine AW.reg (by rfl) ?_ | refine AW.skip ?_ | refine AW.ret ?_ | refine AW.exit ?_);simp only [undef,Yj,aop,ev,ofValue,Zh,put_none,Y3,APost,ares,Y8,Za,Nat.reduceEqDiff,↓reduceIte,cells_v,cells_ifc,splice,List.length_cons,List.length_nil,List.take_zero,List.drop_succ_cons,List.drop_nil,List.nil_append,List.append_nil,List.getElem?_cons_zero,List.all_cons,List.all_nil,one_v,one_ifc,Value.oneCell',Bool.and_self,true_and,and_true,Nat.zero_add,Nat.le_refl,Xc,astore,Xd,anil,isNilC,ne_eq,not_false_eq_true,Option.map_some,Zq,Zk,Zt,X3,Ym,Bool.not_false,Wg,agg_23,agg_29,h43,h54,h53]) | refine AW.block ?_ | with_reducible refine AW.condT rfl ?_ | with_reducible refine AW.condF rfl ?_)
 rw [hK']
end Go.Proofs.Ytddbfjgodbfaoaa.T
namespace Go.Mac
open Go Go.Eng Go.Pl Go.Proofs Go.Proofs.Ytddbfjgodbfaoaa.T
open Go.Proofs.Try (prog)
theorem u8s:∀ {xs:List LV},xs.all isU8=true->∃ b:List Int,xs=bys b
 | [],_=>⟨[],rfl⟩
 | x::xs,h=>by
  simp only [List.all_cons,Bool.and_eq_true] at h;obtain ⟨b,rfl⟩:=u8s h.2
  cases x with
  | int k n =>
   cases k <;> simp [isU8] at h
   exact ⟨n::b,rfl⟩
  | _=>simp [isU8] at h
theorem pend_told(R:Inst)(at_:Int):∀ {ps:List LV},ps.all okW=true->∃ pc:PL,Z1 R false ps=pc.map pC/\ps.map (toP R)=pc.map (fun x=>(x.1,x.2.map cel)) /\
  lastOf at_ ps=(lastC at_ pc).map (fun o=>match o with | some b=>LV.isl 1 (bys b) | none=>.nils)
 | [],_=>⟨[],by simp [Z1],rfl,rfl⟩
 | x::ps,h=>by
  simp only [List.all_cons,Bool.and_eq_true] at h;obtain ⟨pc,h1,h2,h3⟩:=pend_told R at_ h.2;have hx:=h.1;unfold okW at hx
  split at hx
  ·rename_i a
   refine ⟨(a,none)::pc,?_,?_,?_⟩
   ·simp only [Z1,List.map_cons,h1]
    simp [pC,optC,Z0,Z1]
   ·simp [h2,toP]
   ·simp only [lastOf,lastC,h3]
    cases lastC at_ pc with
    | some o=>simp
    | none =>
     simp only [Option.map_none]
     split <;> simp
  ·rename_i a y ys
   obtain ⟨b,hb⟩:=u8s hx;refine ⟨(a,some b)::pc,?_,?_,?_⟩
   ·simp only [Z1,List.map_cons,h1]
    simp only [pC,optC,Z0,Z1];have:Z0 R false y::Z1 R false ys=cel b:=by
     rw [<- cel_bys R false b,<- hb];simp only [Z1]
    rw [this]
   ·simp only [List.map_cons,h2]
    simp only [toP,Option.map_some];rw [hb,cel_bys]
   ·simp only [lastOf,lastC,h3]
    cases lastC at_ pc with
    | some o=>simp
    | none =>
     simp only [Option.map_none]
     split
     ·simp [hb]
     ·simp
  ·simp at hx
theorem blk_pad(b:List Int):(b++List.replicate 64 0).take 64=blk b:=by
 unfold blk Z6
 rcases Nat.lt_or_ge b.length 64 with h | h
 ·rw [Nat.min_eq_left (by omega),List.take_of_length_le (Nat.le_refl _),List.take_append,List.take_of_length_le (by omega),List.take_replicate,List.take_zero,List.nil_append,Nat.zero_add,List.drop_replicate,Nat.min_eq_left (by omega)]
 ·rw [Nat.min_eq_right h,List.take_append_of_le_length h,List.take_zero,List.nil_append,Nat.zero_add,List.length_take,Nat.min_eq_left h,List.drop_replicate]
  simp
theorem pad_isl(b:List Int):pad64 (.isl 1 (bys b))=.isl 1 (bys (blk b)):=by
 rw [<- blk_pad];simp [pad64,bys]
theorem pad_nils:pad64 .nils=.isl 1 (bys (blk [])):=by
 rw [<- blk_pad];simp [pad64,bys]
theorem map_told(R:Inst):∀ (es:List (Int × AV)),(∀ p∈es,∃ b,p.2=.sl 1 (cel b))->∃ ec,es=mC ec
 | [],_=>⟨[],rfl⟩
 | p::es,h=>by
  obtain ⟨ec,rfl⟩:=map_told R es (fun q hq=>h q (List.mem_cons_of_mem _ hq))
  obtain ⟨b,hb⟩:=h p List.mem_cons_self;refine ⟨(p.1,b)::ec,?_⟩;obtain ⟨k,u⟩:=p
  simp only at hb;subst hb
  rfl
theorem cel_inj:∀ {a b:List Int},cel a=cel b->a=b
 | [],[],_=>rfl
 | [],_::_,h=>by simp [cel] at h
 | _::_,[],h=>by simp [cel] at h
 | x::a,y::b,h=>by
  simp only [cel,List.map_cons,List.cons.injEq] at h;obtain ⟨h1,h2⟩:=h
  injection h1 with h1
  injection h1 with _ h1
  rw [h1,cel_inj (show cel a=cel b from h2)]
theorem kget_told{R:Inst}{ks:List Int}{vs:List LV}{ec:ML}(hm:MapOk R (ks.zip vs) (mC ec))(hv:vs.all okBs=true)(n:Int):Yk (ks.zip vs) n=(pget ec n).map fun b=>LV.isl 1 (bys b):=by
 have h1:=hm.get n;have h2:Eng.mget (mC ec) n=(pget ec n).map (fun b=>.sl 1 (cel b)):=mget_gmap _ _ _
 rw [h2] at h1
 cases hp:pget ec n with
 | none =>
  rw [hp] at h1
  cases hk:Yk (ks.zip vs) n with
  | none=>rfl
  | some x=>rw [hk] at h1;simp at h1
 | some b =>
  rw [hp] at h1
  cases hk:Yk (ks.zip vs) n with
  | none=>rw [hk] at h1;simp at h1
  | some x =>
   rw [hk] at h1;have hx:x∈vs:=by
    have hmem:n∈(ks.zip vs).map (·.1):=by
     apply Classical.byContradiction;intro hc;rw [kget_none hc] at hk;simp at hk
    obtain ⟨y,hy1,hy2⟩:=kget_some hmem;rw [hk] at hy1;injection hy1 with hy1
    subst hy1;exact (List.of_mem_zip hy2).2
   have ho:=List.all_eq_true.1 hv x hx;unfold okBs at ho
   split at ho
   ·rename_i xs
    obtain ⟨b',rfl⟩:=u8s ho;have:cel b=cel b':=by simpa [Z0,cel_bys] using h1
    rw [cel_inj this];rfl
   ·simp at ho
theorem lm_read{as_:List LV}{st st':St}{v:LV}(h:xRead as_ st=some (v,st')):LMeets prog 21 as_ st v st':=by
 unfold xRead at h
 split at h
 case h_2=>simp at h
 rename_i b at_
 split at h
 case h_2=>simp at h
 rename_i e r ks vs el n ps hl
 split at h
 case isFalse=>simp at h
 rename_i hc;obtain ⟨he,hel,hn,hok,hlen,hvs⟩:=hc;subst hel;subst hn;intro R s hs hr;obtain ⟨t1,t2,hob,_,hperm,_⟩:=hs.ents.focus hl;obtain ⟨q,es,u3,s3,rfl,hm,h3⟩:=disk_lies hob;have hb:=disk_bor (b:=b) (e:=e) (r:=r) (es:=es) (q:=q) hok h3;have harg:∀ I w xs,Rel I ((R.ρ b,.cells e [.v (.int .i64 r),.v (.map (some q)),u3] 3)::(q,.imap .i64 es)::s3) w->RVs I xs (Z1 R true [.ptr b 0,.int .i64 at_]) ->
   RVs (I.with ((R.ρ b,.cells e [.v (.int .i64 r),.v (.map (some q)),u3] 3)::(q,.imap .i64 es)::s3) w) xs [.rp (.agg [.v (.int .i64 r),.mp .i64 es,.sl 2 ((ps.map (toP R)).map pAV)]),.v (.int .i64 at_)]:=by
  intro I w xs hrel ha;have ha':RVs I xs (.v (.pointer (some ⟨R.ρ b,0,none⟩))::[.v (.int .i64 at_)]):=by simpa [Z1,Z0] using ha
  exact rvs_box (vs:=[.v (.int .i64 r),.mp .i64 es,.sl 2 ((ps.map (toP R)).map pAV)]) List.mem_cons_self (us:=[.v (.int .i64 r),.v (.map (some q)),u3]) (by simp) hb hrel ha'
 split at h
 ·
  rename_i hat;simp only [Option.some.injEq,Prod.mk.injEq] at h;obtain ⟨rfl,rfl⟩:=h
  refine Meets.use _ t2 hperm.symm ?_
  refine Meets.borrow2 harg ((read_err r at_ hat _ _ rfl).mono ?_);rintro rr t rfl;refine ⟨[],by simp,by simp [Hp.keys],rfl,by simp,?_⟩
  refine ⟨R,s,Agree.refl _ _,Nat.le_refl _,?_,?_,HpWk.perm hperm.symm,hs⟩
  ·simp only [Z0,Z1,mkIfc]
   exact Wk.refl _
  ·simp [Z5,Z9]
 ·rename_i hat
  have hat2:0<=at_/\at_<=1073741824:=by omega
  obtain ⟨pc,hp1,hp2,hp3⟩:=pend_told R at_ hok;obtain ⟨ec,rfl⟩:=map_told R es (fun p hp=>by
   have:=hm.perm.mem_iff.1 hp;obtain ⟨y,hy,rfl⟩:=List.mem_map.1 this;have hyv:=(List.of_mem_zip (show (y.1,y.2)∈ks.zip vs from hy)).2
   have ho:=List.all_eq_true.1 hvs _ hyv;unfold okBs at ho
   split at ho
   ·rename_i xs hxs
    obtain ⟨b',rfl⟩:=u8s ho;refine ⟨b',?_⟩;simp only [hxs,Z0,cel_bys]
   ·simp at ho)
  have hpc:(ps.map (toP R)).map pAV=pc.map pC:=by
   rw [hp2,List.map_map];apply List.map_congr_left;rintro ⟨a,o⟩ _
   cases o <;> rfl
  have hkt:=kget_told hm hvs at_;have hres:v=.tup [.isl 1 (bys (readC at_ ec pc)),.nili]/\st'=st:=by
   rw [hp3,hkt] at h;unfold readC
   cases hlc:lastC at_ pc with
   | some o =>
    rw [hlc] at h
    cases o with
    | some b' =>
     simp only [Option.map_some,pad_isl,Option.some.injEq,Prod.mk.injEq] at h;exact ⟨h.1.symm,h.2.symm⟩
    | none =>
     simp only [Option.map_some,pad_nils,Option.some.injEq,Prod.mk.injEq] at h;exact ⟨h.1.symm,h.2.symm⟩
   | none =>
    rw [hlc] at h;simp only [Option.map_none] at h
    cases hpg:pget ec at_ with
    | some b' =>
     rw [hpg] at h;simp only [Option.map_some,pad_isl,Option.some.injEq,Prod.mk.injEq] at h;exact ⟨h.1.symm,h.2.symm⟩
    | none =>
     rw [hpg] at h;simp only [Option.map_none,pad_nils,Option.some.injEq,Prod.mk.injEq] at h;exact ⟨h.1.symm,h.2.symm⟩
  obtain ⟨rfl,rfl⟩:=hres;refine Meets.froz ?_
  refine Meets.use _ t2 hperm.symm ?_
  rw [hpc] at harg;have hpl:pc.length<=1048576:=by
   have:=congrArg List.length hp1;rw [Zu,List.length_map,List.length_map] at this;omega
  refine Meets.borrow2 harg ((read_av r at_ hat2 ec pc hpl).mono ?_);rintro rr t ⟨q',cap,t',h64,hmx,rfl,rfl,hsub⟩;refine ⟨[(q',.cells 5 (cel (readC at_ ec pc)) (cap*1))],fun p hp=>hsub.subset hp,fun _=>by simp [Hp.keys],rfl,?_,?_⟩
  ·intro p hp
   simp only [List.mem_singleton] at hp;subst hp;simp only [AObj.plain,List.all_eq_true];intro x hx;unfold cel at hx;obtain ⟨y,_,rfl⟩:=List.mem_map.1 hx
   rfl
  ·intro hn
   have hlenr:(readC at_ ec pc).length=64:=by
    unfold readC
    split <;> exact blk_length _
   have hkn:q'∉Hp.keys (((R.ρ b,AObj.cells e [.v (.int .i64 r),.v (.map (some q)),u3] 3)::(q,.imap .i64 (mC ec))::s3)++t2):=(List.nodup_cons.1 hn).1;refine ⟨[(q',.cells 5 (cel (readC at_ ec pc)) (cap*1))],.tup [.sl 1 (cel (readC at_ ec pc)),.v .nilIface],_,fun p hp=>by
    simp only [List.mem_singleton] at hp;subst hp;simp,?_,.drop _ (.rest (fun k hk=>by
     simp only [Hp.keys,List.map_cons,List.map_nil,List.mem_singleton];intro e;subst e;exact hkn hk)),?_⟩
   ·refine BorL.tup (.cons ?_ (.refl _ _))
    refine .row q' 0 64 cap 1 (cap*1) 5 (cel (readC at_ ec pc)) (cel (readC at_ ec pc)) (by simp) ?_ h64 (by unfold big;omega) ?_ ?_
    ·unfold cel;rw [List.length_map,hlenr]
    ·intro i x hx
     unfold cel at hx;rw [List.getElem?_map] at hx;obtain ⟨y,_,rfl⟩:=Option.map_eq_some_iff.1 hx
     rfl
    ·rw [cel_flat,List.drop_zero,List.take_of_length_le]
     unfold cel;rw [List.length_map,hlenr];omega
   ·refine ⟨R,s,Agree.refl _ _,Nat.le_refl _,?_,by simp [Z5,Z9],HpWk.perm hperm.symm,hs⟩
    simp only [Z0,Z1,cel_bys];exact Wk.refl _
end Go.Mac
namespace Go.Mac
open Go Go.Eng Go.Proofs
open Go.Proofs.Try (prog)
theorem extB_sound{f:FuncId}{F:List LV->St->Option (LV × St)}(h:extB f=some F){as_:List LV}{st st':St}{v:LV}(hF:F as_ st=some (v,st')):LMeets prog f as_ st v st':=by
 simp only [extB] at h
 split at h
 ·rename_i hf;subst hf;injection h with h;subst h;exact lm_mclone hF
 split at h
 ·rename_i hf;subst hf;injection h with h;subst h;exact lm_needs hF
 split at h
 ·rename_i hf;subst hf;injection h with h;subst h;exact lm_is hF
 split at h
 ·rename_i hf;subst hf;injection h with h;subst h;exact lm_read hF
 split at h
 ·rename_i hf;subst hf;injection h with h;subst h;exact lm_sorted hF
 ·simp at h
theorem mixed_seat:prog.follows .mixedOrders=true:=by kernel_rfl
theorem extCk:ExtSound prog Ck:=fun f F h as_ st v st' hF=>extB_sound h hF
theorem extC0:ExtSound prog C0:=by
 intro f F h as_ st v st' hF;simp only [C0] at h
 split at h
 ·rename_i hf;subst hf;injection h with h;subst h;exact lcall_sound extCk mixed_seat 600 _ _ _ _ _ hF
 ·exact extB_sound h hF
end Go.Mac
namespace Go.Mac
open Go Go.Eng Go.Proofs Go.Proofs.Ytddbfjgodbfaoaa
open Go.Proofs.Try (prog)
theorem map_of{α:Type}{f:α->LV}{G:LV->Prop}(hG:∀ x,G x->∃ n,x=f n):∀ {xs:List LV},(∀ x∈xs,G x)->∃ l:List α,xs=l.map f
 | [],_=>⟨[],rfl⟩
 | x::xs,h=>by
  obtain ⟨n,hn⟩:=hG x (h x (by simp))
  obtain ⟨l,hl⟩:=map_of hG (xs:=xs) fun y hy=>h y (by simp [hy])
  exact ⟨n::l,by rw [hn,hl];rfl⟩
def isBys(v:LV):Prop:=∃ b:List Int,v=.isl 1 (bys b)
def isInts(v:LV):Prop:=∃ b:List Int,v=.isl 1 (ints b)
theorem Rd.mono{H:Type}{enc:TypeId × Value->H}{P:Program}{R:Inst}{w:World}{t:TypeId}{G G':LV->Prop}(h:Rd enc P R w t G)(hG:∀ v,G v->G' v):Rd enc P R w t G':=by
 intro base sp hd fuel cs x h1 h2;obtain ⟨v,g,r⟩:=h base sp hd fuel cs x h1 h2;exact ⟨v,hG v g,r⟩
section
variable {H : Type} {enc : TypeId × Value → H} {P : Program} {R : Inst} {w : World}
theorem Rd.bys{t e:TypeId}(ht:P.underlying t=some (.slice e))(he:P.underlying e=some (.int .u8))(hk:P.cellsOf e=1)(hb:0<P.bytesOf e):Rd enc P R w t isBys:=
 (Rd.slice ht hk (by omega) hb (Rd.int he) (by rintro v ⟨n,rfl,_⟩;rfl)).mono (by
  rintro v ⟨xs,rfl,h,_⟩;obtain ⟨l,rfl⟩:=map_of (f:=LV.int .u8) (by rintro x ⟨n,rfl,_⟩;exact ⟨n,rfl⟩) h
  exact ⟨l,rfl⟩)
theorem Rd.ints{t e:TypeId}(ht:P.underlying t=some (.slice e))(he:P.underlying e=some (.int .i64))(hk:P.cellsOf e=1)(hb:0<P.bytesOf e):Rd enc P R w t isInts:=
 (Rd.slice ht hk (by omega) hb (Rd.int he) (by rintro v ⟨n,rfl,_⟩;rfl)).mono (by
  rintro v ⟨xs,rfl,h,_⟩;obtain ⟨l,rfl⟩:=map_of (f:=LV.int .i64) (by rintro x ⟨n,rfl,_⟩;exact ⟨n,rfl⟩) h
  exact ⟨l,rfl⟩)
end
theorem own_seat:ownKnob prog.godebug=none:=by kernel_rfl
theorem laid_seat:laidOutB prog=true:=by kernel_rfl
def isInt(k:IntKind)(v:LV):Prop:=∃ n,v=.int k n
theorem Rd.i{H:Type}{enc:TypeId × Value->H}{P:Program}{R:Inst}{w:World}{t:TypeId}{k:IntKind}(ht:P.underlying t=some (.int k)):Rd enc P R w t (isInt k):=(Rd.int ht).mono (by rintro v ⟨n,rfl,_⟩;exact ⟨n,rfl⟩)
end Go.Mac
namespace Go.Mac
open Go Go.Eng Go.Proofs Go.Proofs.Ytddbfjgodbfaoaa
open Go.Proofs.Try (prog)
set_option maxRecDepth 100000
theorem map_ofW{α:Type}{f:α->LV}{G:LV->Prop}{Q:α->Prop}(hG:∀ x,G x->∃ n,x=f n/\Q n):∀ {xs:List LV},(∀ x∈xs,G x)->∃ l:List α,xs=l.map f/\∀ n∈l,Q n
 | [],_=>⟨[],rfl,by simp⟩
 | x::xs,h=>by
  obtain ⟨n,hn,hq⟩:=hG x (h x (by simp))
  obtain ⟨l,hl,hq2⟩:=map_ofW hG (xs:=xs) fun y hy=>h y (by simp [hy])
  exact ⟨n::l,by rw [hn,hl];rfl,fun y hy=>(List.mem_cons.1 hy).elim (fun e=>by rw [e];exact hq) (hq2 y)⟩
def isU8v(v:LV):Prop:=∃ n,v=.int .u8 n/\(Lit.int .u8 n).wf=true
theorem u8_wf{n:Int}(h:(Lit.int .u8 n).wf=true):0<=n/\n<=255:=by
 have e3:IntKind.u8.min=0:=rfl;have e4:IntKind.u8.max=255:=rfl;simp only [Lit.wf,Bool.and_eq_true,decide_eq_true_eq] at h;omega
def isBysL(v:LV):Prop:=∃ b:List Int,v=.isl 1 (bys b)/\byB b/\b.length<=1000000000000000
def isOps9(v:LV):Prop:=∃ l:List Act5,v=.isl 5 (Zf l)/\∀ x∈l,byB x.b/\x.b.length<=1000000000000000
theorem rd_bysL{H:Type}(enc:TypeId × Value->H)(W:World):Rd enc prog R0 W 23 isBysL:=by
 refine (Rd.slice (e:=5) (k:=1) (by kernel_rfl) (by kernel_rfl) (by omega) (Nat.le_of_ble_eq_true (by kernel_rfl)) (Rd.int (k:=.u8) (by kernel_rfl)) (by rintro v ⟨n,rfl,_⟩;rfl)).mono ?_
 rintro v ⟨xs,rfl,h,hl⟩;obtain ⟨l,rfl,hq⟩:=map_ofW (f:=LV.int .u8) (Q:=fun n=>0<=n/\n<256) (by rintro x ⟨n,rfl,hw⟩;have:=u8_wf hw;exact ⟨n,rfl,by omega⟩) h
 refine ⟨l,rfl,hq,?_⟩;have:reachBytes<=1000000000000000:=by decide
 rw [List.length_map] at hl;omega
theorem rd_op9{H:Type}(enc:TypeId × Value->H)(W:World):Rd enc prog R0 W 102 (fun v=>∃ x:Act5,v=op5 x/\byB x.b/\x.b.length<=1000000000000000):=by
 have I:=Rd.i (enc:=enc) (P:=prog) (R:=R0) (w:=W) (t:=3) (k:=.i64) (by kernel_rfl)
 have B:=rd_bysL enc W;have N:=Rd.ints (enc:=enc) (P:=prog) (R:=R0) (w:=W) (t:=24) (e:=3) (by kernel_rfl) (by kernel_rfl) (by kernel_rfl) (Nat.le_of_ble_eq_true (by kernel_rfl))
 have hI:∀ v,isInt .i64 v->Z4 v=[v]:=by rintro v ⟨n,rfl⟩;rfl
 have hB:∀ v,isBysL v->Z4 v=[v]:=by rintro v ⟨n,rfl,_⟩;rfl
 have hN:∀ v,isInts v->Z4 v=[v]:=by rintro v ⟨n,rfl⟩;rfl
 refine (Rd.struct1 (Gs:=[isInt .i64,isInt .i64,isBysL,isInts,isInt .i64]) Try.underlying102 (by kernel_rfl) rfl ?_).mono ?_
 ·intro i f G hf hG
  match i,hf,hG with
  | 0,hf,hG=>cases hf;cases hG;exact ⟨rfl,by kernel_rfl,I,hI⟩
  | 1,hf,hG=>cases hf;cases hG;exact ⟨rfl,by kernel_rfl,I,hI⟩
  | 2,hf,hG=>cases hf;cases hG;exact ⟨rfl,by kernel_rfl,B,hB⟩
  | 3,hf,hG=>cases hf;cases hG;exact ⟨rfl,by kernel_rfl,N,hN⟩
  | 4,hf,hG=>cases hf;cases hG;exact ⟨rfl,by kernel_rfl,I,hI⟩
  | i+5,hf,hG=>simp at hG
 ·rintro v ⟨vs,rfl,hl,h⟩
  have hl:vs.length=5:=hl
  match vs,hl with
  | [a,a2,b,c,d],_ =>
   obtain ⟨k,rfl⟩:=h 0 a _ rfl rfl;obtain ⟨q,rfl⟩:=h 1 a2 _ rfl rfl;obtain ⟨b,rfl,hb⟩:=h 2 b _ rfl rfl;obtain ⟨s,rfl⟩:=h 3 c _ rfl rfl;obtain ⟨u,rfl⟩:=h 4 d _ rfl rfl;exact ⟨⟨k,q,b,s,u⟩,rfl,hb⟩
theorem rd_ops9{H:Type}(enc:TypeId × Value->H)(W:World):Rd enc prog R0 W 54 isOps9:=by
 refine (Rd.slice (e:=102) (k:=5) (by kernel_rfl) (by kernel_rfl) (by omega) (Nat.le_of_ble_eq_true (by kernel_rfl)) (rd_op9 enc W) (by rintro v ⟨b,rfl,_⟩;rfl)).mono ?_
 rintro v ⟨xs,rfl,h,_⟩;obtain ⟨l,rfl,hq⟩:=map_ofW (f:=op5) (Q:=fun x=>byB x.b/\x.b.length<=1000000000000000) (fun x h=>h) h
 exact ⟨l,rfl,hq⟩
theorem rd_intsW{H:Type}(enc:TypeId × Value->H)(W:World):Rd enc prog R0 W 24 isInts:=Rd.ints (e:=3) (by kernel_rfl) (by kernel_rfl) (by kernel_rfl) (Nat.le_of_ble_eq_true (by kernel_rfl))
end Go.Mac
namespace Go.Mac
open Go Go.Eng Go.Proofs
open Go.Proofs.Try (prog)
set_option maxRecDepth 100000
theorem works_chain(n:Nat):Zd prog C0 (Z3 prog C0 (n+199)) (n+199) 25 [] ⟨0,[]⟩=some (.bool true,⟨0,[]⟩):=by kernel_rfl
end Go.Mac
namespace Go.Mac
open Go Go.Eng Go.Proofs Go.Proofs.Ytddbfjgodbfaoaa
open Go.Proofs.Try (prog)
set_option maxRecDepth 100000
theorem works_all:WkF:=fun j hj=>by
 obtain ⟨k,rfl⟩:∃ k,j=k+199:=⟨j-199,by omega⟩
 exact works_chain k
theorem cc_lcall(l:List Act5)(hok:∀ x∈l,byB x.b/\x.b.length<=1000000000000000)(w:Int)(w0:0<=w)(w1:w<=255)(ks:List Int)(cut:Int):
  Z3 prog C0 2001 7 [.isl 5 (Zf l),.int .u8 w,.isl 1 (ints ks),.int .i64 cut] ⟨0,[]⟩=some (.bool true,⟨0,[]⟩):=by
 have h:=cc_ok l hok w w0 w1 ks cut works_all;have hr:Z9 [.isl 5 (Zf l),.int .u8 w,.isl 1 (ints ks),.int .i64 cut]=[]:=rfl;have e:Wb (fun b=>ixOf [] b 0) [.isl 5 (Zf l),.int .u8 w,.isl 1 (ints ks),.int .i64 cut]=[.isl 5 (Zf l),.int .u8 w,.isl 1 (ints ks),.int .i64 cut]:=rfl
 rw [<- e] at h;exact lcall_nil hr h
theorem cc_params{H:Type}(enc:TypeId × Value->H)(W:World):Params enc prog R0 W Try.f7.params.toList [isOps9,isU8v,isInts,isInt .i64]:=by
 rw [Try.params7];exact ⟨⟨ok1_slice (e:=102) (by kernel_rfl),rd_ops9 enc W,by rintro u ⟨l,rfl,_⟩;rfl⟩,⟨ok1_int (k:=.u8) (by kernel_rfl),Rd.int (by kernel_rfl),by rintro u ⟨l,rfl,_⟩;rfl⟩,⟨ok1_slice (e:=3) (by kernel_rfl),rd_intsW enc W,by rintro u ⟨l,rfl⟩;rfl⟩,⟨ok1_int (k:=.i64) (by kernel_rfl),Rd.i (by kernel_rfl),by rintro u ⟨l,rfl⟩;rfl⟩,trivial⟩
theorem enterCc(vs:Array Value)(W:World):(callFunc 7 vs).run prog W=.ok (.enter 7 vs) W:=by kernel_rfl
theorem cc_lifted(os:Os)(started:os.Started)(H:Type)(enc:TypeId × Value->H):
  ReturnsInHanded {} Try.checked os 7 .any (Rows.chainCutsSpec.pre6 enc prog Try.f7 Rows.chainCutsRow.domain false) (Rows.chainCutsSpec.post enc prog Try.f7 false true false false):=
 lifted_of_lcall (K:=Try.checked) (C:=C0) (Gs:=[isOps9,isU8v,isInts,isInt .i64]) (tb:=4) (fun W a x h=>by simp [gndL] at h) started own_seat laid_seat extC0 mixed_seat (by kernel_rfl) Try.func7 rfl
  (by rw [Try.params7];exact of_decide_eq_true (by kernel_rfl)) (by kernel_rfl) (by kernel_rfl) (fun W=>cc_params enc W)
  (fun xs h=>by
   match xs,h with
   | [a,b,c,d],h =>
    obtain ⟨⟨l,rfl,hq⟩,⟨n,rfl,hw⟩,⟨ks,rfl⟩,⟨k,rfl⟩,_⟩:=h
    have q:=u8_wf hw;exact ⟨2001,cc_lcall l hq n q.1 q.2 ks k,rfl⟩)
  (fun ds h=>by
   have h:ds.length=4:=h
   match ds,h with
   | [d1,d2,d3,d4],_=>exact ⟨rfl,rfl,rfl⟩)
  enterCc
  (ChangeSpec.witness6 (enc:=enc) (C:=Try.checked) false ⟨#[],#[.slice none 0 0,.int .u8 0,.slice none 0 0,.int .i64 0],[]⟩ 8 (by kernel_rfl) (by kernel_rfl) (by kernel_rfl) (by kernel_rfl))
theorem cc_over:Rows.chainCutsRow.holds Try.pinned (OpenSpec.ofChange Rows.chainCutsSpec):=
 OpenClaim.holds_of_wide 7 Try.f7 rfl rfl rfl rfl rfl rfl rfl ⟨rfl,rfl,rfl,rfl,rfl⟩ rfl rfl rfl rfl rfl (by kernel_rfl) Try.func7 (by kernel_rfl)
  (of_decide_eq_true (by kernel_rfl)) (by unfold Func.isWrapper;first | (rw [if_pos (by decide +kernel)];kernel_rfl) | (rw [if_neg (by decide +kernel)];exact ⟨rfl,rfl⟩))
  (fun os started H enc _=>cc_lifted os started H enc)
end Go.Mac
namespace Go.Proofs.Ytddbfjgodbfaoaa
theorem chainCuts_holds:Rows.ChainCutsSaid:=Go.Mac.cc_over
end Go.Proofs.Ytddbfjgodbfaoaa
