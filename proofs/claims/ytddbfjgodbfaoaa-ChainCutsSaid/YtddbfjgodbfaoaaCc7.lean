/-
 ChainCuts holds for every input: behind any crash there are the records ahead of the cut, and what was appended behind it; no condition.
-/
import Derived.Test.YtddbfjgodbfaoaaCc3
import Derived.Test.YtddbfjgodbfaoaaCc5
import Derived.Test.YtddbfjgodbfaoaaCc6
import Derived.Test.YtddbfjgodbfaoaaProg
import Derived.KernelRfl
set_option linter.unusedVariables false
set_option linter.unusedSimpArgs false
namespace Go.Mac
open Go Go.Eng Go.Proofs
open Go.IntKind (i64)
open Go.Proofs.Try (prog)
set_option maxHeartbeats 0
set_option maxRecDepth 100000
theorem right_ok(n:Nat)(at_:Int)(h:0<=at_)(h2:at_<=1073741824):Zd prog C0 (Z3 prog C0 (n+9)) (n+9) 44 [.int .i64 at_] ⟨0,[]⟩=some (.nili,⟨0,[]⟩):=by
 have f1:decide (at_<0)=false:=by simp;omega
 have f2:LV.bool (if decide (at_<0)=true then true else decide (1073741824<at_))=LV.bool false:=by simp;omega
 exact drn (fun h=>ai (congrArg some f1)<|ai (congrArg some f1)<|ai (f2)<|h) (.s (.a) (.s (.s (.r [.a,.a,.a,.g false (.a),.g false (.a),.v (vOf f2) (.a)]) (.a)) (.a))) [] .a (by kernel_rfl)
theorem whole_ok(n:Nat)(b:List Int):Zd prog C0 (Z3 prog C0 (n+9)) (n+9) 40 [.isl 1 (bys b)] ⟨0,[]⟩=some (.sl 1 0 0 64 none,⟨1,[(0,.row 5 1 (bys (blk b)))]⟩):=by
 have f1:Yx true 1 (Zi (bys b))=true:=by simp
 have f2:64<=64:=by omega
 have f3:LV.int i64 (↑(min (List.length (Zi (bys b))) 64):Int)=LV.int i64 (↑(min (List.length b) 64):Int):=by simp
 have f4:LObj.row 5 1 (Z7 (List.replicate 64 (LV.int IntKind.u8 0)) 0 (List.take (min (List.length (Zi (bys b))) 64) (Zi (bys b))))=LObj.row 5 1 (bys (Z6 (List.replicate 64 0) 0 (List.take (min (List.length b) 64) b))):=by simp
 exact drn (fun h=>ai (f1)<|ai (f2)<|ai (f3)<|ai (congrArg some f4)<|h) (.s (.a) (.s (.a) (.s (.r [.a,.a,.x 0 (vOf f4) (.v (vOf f3) (.q))]) (.a)))) [] .a (by kernel_rfl)
theorem bput_some(n:Nat)(at_:Int)(b:List Int)(w:List (Int × LV))(hb:b≠[]):Zd prog C0 (Z3 prog C0 (n+10)) (n+10) 41 [.map 0,.agg [.int .i64 at_,.isl 1 (bys b)]] ⟨1,[(0,.map .i64 w)]⟩=some (.tup [],⟨1,[(0,.map .i64 (Wy w at_ (.isl 1 (bys b))))]⟩):=by
 have f1:List.isEmpty (bys b)=false:=by simp;omega
 exact drn (fun h=>ai (f1)<|h) (.s (.a) (.s (.s (.r [.a,.a,.q]) (.a)) (.a))) [] .a (by kernel_rfl)
theorem bput_none(n:Nat)(at_:Int)(w:List (Int × LV)):Zd prog C0 (Z3 prog C0 (n+10)) (n+10) 41 [.map 0,.agg [.int .i64 at_,.nils]] ⟨1,[(0,.map .i64 w)]⟩=some (.tup [],⟨1,[(0,.map .i64 (kdel w at_))]⟩):=by
 exact drn (fun h=>h) (.a) [] .a (by kernel_rfl)
def Zl(m:ML)(p:PL):List (Int × LV):=Wv (Zg p) (List.foldl kinc [] (Zn m))
def okP(p:PL):Prop:=∀ x∈p,∀ b,x.2=some b->b≠[]
theorem u8_bys(b:List Int):(bys b).all isU8=true:=by
 rw [List.all_eq_true];intro x hx;obtain ⟨n,_,rfl⟩:=List.mem_map.1 hx
 rfl
theorem okW_pnds:∀ {p:PL},okP p->(Zg p).all okW=true
 | [],_=>rfl
 | (a,none)::p,h=>by
  have:=okW_pnds (p:=p) (fun x hx=>h x (List.mem_cons_of_mem _ hx))
  show (okW (.agg [.int .i64 a,.nils])&&(Zg p).all okW)=true
  rw [this];rfl
 | (a,some [])::p,h=>absurd rfl (h _ List.mem_cons_self [] rfl)
 | (a,some (x::b))::p,h=>by
  have:=okW_pnds (p:=p) (fun x hx=>h x (List.mem_cons_of_mem _ hx))
  show (okW (.agg [.int .i64 a,.isl 1 (bys (x::b))])&&(Zg p).all okW)=true
  rw [this,Bool.and_true];exact u8_bys (x::b)
theorem okBs_mapV(m:ML):(Xl m).all okBs=true:=by
 rw [List.all_eq_true];intro x hx;obtain ⟨y,_,rfl⟩:=List.mem_map.1 hx;exact u8_bys y.2
theorem needs_ok(n:Nat)(rm:Int)(m:ML)(p:PL)(hp:p.length<=1000000)(ho:okP p):
  Zd prog C0 (Z3 prog C0 n) n 45 [.ptr 0 0] ⟨1,[(0,dO rm m p)]⟩=some (.map 1,⟨2,[(0,dO rm m p),(1,.map .i64 (Zl m p))]⟩):=by
 have X:xNeeds [.ptr 0 0] ⟨1,[(0,dO rm m p)]⟩=some (.map 1,⟨2,[(1,.map .i64 (Zl m p)),(0,dO rm m p)]⟩):=by
  have h1:=okW_pnds ho;have h2:(Zg p).length<=1048576:=by simp;omega
  simp only [xNeeds,St.look,Yh,if_true,h1,h2,and_self,zip_mapKV,mapE_fst,Zl,St.add]
 exact x_runx rfl X (by kernel_rfl)
theorem zq7_0(a0:List Int):LV.int i64 ((bys a0).length:Int)=LV.int i64 (a0.length:Int):=by simp
theorem zq7_1(a0:ML):LObj.map i64 (List.zip (Zn a0) (Xl a0))=LObj.map i64 (Zm a0):=by simp
theorem zq7_2(a0:Int)(a1:PL)(q0:Nat)(q1:Nat):LObj.box 77 [.int i64 a0,.map q0,.sl 2 q1 0 (List.length (Zg a1)) none]=LObj.box 77 [.int i64 a0,.map q0,.sl 2 q1 0 (List.length a1) none]:=by simp
theorem zq7_3(a0:PL)(a1:Int)(a2:List Int):LObj.row 88 2 (Zg a0++List.take 1 (List.drop 0 (List.set [.agg [.int i64 0,.nils]] 0 (LV.agg [.int i64 a1,.isl 1 (bys (Z6 (List.replicate 64 0) 0 a2))]))))=LObj.row 88 2 (Zg (a0++[(a1,some (Z6 (List.replicate 64 0) 0 a2))])):=by simp
theorem zq7_4(a0:Int)(a1:List Int):LObj.row 88 2 (List.set [.agg [.int i64 0,.nils]] 0 (LV.agg [.int i64 a0,.isl 1 (bys (Z6 (List.replicate 64 0) 0 a1))]))=LObj.row 88 2 [.agg [.int i64 a0,.isl 1 (bys (Z6 (List.replicate 64 0) 0 a1))]]:=by simp
theorem zq7_6(a0:Int)(a1:ML)(a2:PL)(a3:Int)(a4:List Int):(LV.nili,St.mk 1 [(0,LObj.box 77 [.int i64 a0,.omap i64 (List.map (·.1) (Zm a1)) (List.map (·.2) (Zm a1)),.own 88 2 (Zg (a2++[(a3,some (Z6 (List.replicate 64 0) 0 a4))]))])])=(LV.nili,St.mk 1 [(0,dO a0 a1 (a2++[(a3,some (Z6 (List.replicate 64 0) 0 a4))]))]):=by simp
theorem write_new(n:Nat)(at_:Int)(b:List Int)(rm:Int)(m:ML)(p:PL)(h0:0<=at_)(h1:at_<=1073741824)(hb:b.length<=64)(hp:p.length<=1000000)(ho:okP p)(hk:Yk (Zl m p) at_=none)(hr:(Zl m p).length<rm):
  Zd prog C0 (Z3 prog C0 (n+20)) (n+20) 20 [.ptr 0 0,.int .i64 at_,.isl 1 (bys b)] ⟨1,[(0,dO rm m p)]⟩=some (.nili,⟨1,[(0,dO rm m (p++[(at_,some (Z6 (List.replicate 64 0) 0 b))]))]⟩):=by
 have f1:=right_ok (n+10) at_ h0 h1;have f2:decide (64<((bys b).length:Int))=false:=by simp;omega
 have f3:=needs_ok (n+19) rm m p hp ho;have f4:=zq7_0 b;have f5:LV.bool (decide (64<((bys b).length:Int)))=LV.bool false:=by simp;omega
 have f6:=zq7_1 m;have f7:=zq7_2 rm p 2 3;have f8:Yk (Zl m p) at_=none:=hk;have f9:LV.bool (if true=true then decide (rm<=((Zl m p).length:Int)) else false)=LV.bool false:=by simp;omega
 have f10:Yx true 1 (Zi (bys b))=true:=by simp
 have f11:64<=64:=by omega
 have f12:LV.int i64 (↑(min (List.length (Zi (bys b))) 64):Int)=LV.int i64 (b.length:Int):=by simp (disch:=omega)
 have f13:LObj.row 5 1 (Z7 (List.replicate 64 (LV.int IntKind.u8 0)) 0 (List.take (min (List.length (Zi (bys b))) 64) (Zi (bys b))))=LObj.row 5 1 (bys (Z6 (List.replicate 64 0) 0 b)):=by simp (disch:=omega) [-List.reduceReplicate]
 have f14:(if 4=4 then if 1=1/\0+64<=List.length (bys (Z6 (List.replicate 64 0) 0 b))/\W0 64 none=true then LV.isl 1 (List.take 64 (List.drop 0 (bys (Z6 (List.replicate 64 0) 0 b)))) else LV.any else LV.sl 1 4 0 64 none)=LV.isl 1 (bys (Z6 (List.replicate 64 0) 0 b)):=by simp (disch:=first | omega | (simp;omega)) [-List.reduceReplicate]
 have f15:LV.bool (decide (rm<=((Zl m p).length:Int)))=LV.bool false:=by simp;omega
 have f16:LV.agg [.int i64 at_,if 4=4 then if 1=1/\0+64<=List.length (bys (Z6 (List.replicate 64 0) 0 b))/\W0 64 none=true then LV.isl 1 (List.take 64 (List.drop 0 (bys (Z6 (List.replicate 64 0) 0 b)))) else LV.any else LV.sl 1 4 0 64 none]=LV.agg [.int i64 at_,.isl 1 (bys (Z6 (List.replicate 64 0) 0 b))]:=by simp (disch:=first | omega | (simp;omega)) [-List.reduceReplicate]
 have f17:1<=1:=by omega
 have f18:List.length (Zg p)=List.length p/\(List.length p+1)*32<=140737488355328:=by simp;omega
 have f19:=zq7_3 p at_ b;have f20:=zq7_4 at_ b;have f21:List.length (Zg (p++[(at_,some (Z6 (List.replicate 64 0) 0 b))]))=List.length p+1:=by simp
 have f22:=zq7_6 rm m p at_ b;exact drn (fun h=>ai (f1)<|ai (congrArg LV.bool f2)<|ai (f3)<|ai (f4)<|ai (f5)<|ai (congrArg some f6)<|ai (congrArg some f7)<|ai (f8)<|ai (f9)<|ai (f10)<|ai (f11)<|ai (f12)<|ai (congrArg some f13)<|ai (f14)<|ai (f4)<|ai (f5)<|ai (f15)<|ai (f14)<|ai (f14)<|ai (f14)<|ai (f16)<|ai (f17)<|ai (f18)<|ai (congrArg some f19)<|ai (congrArg some f20)<|ai (f21)<|f22) (.s (.a) (.s (.s (.r [.a,.f (rOf f1)]) (.a)) (.s (.s (.a) (.b false (.a))) (.s (.r [.a,.f (rOf f3)]) (.s (.s (.d [.y 16 (vOf f4),.y 17 (vOf f5),.x 2 (vOf f6),.x 0 (vOf f7)] [.a,.a,.o (vOf f8),.a,.a,.a,.a,.a,.a,.a,.a] [] [.a,.v (vOf f9) (.a)]) (.a)) (.s (.a) (.s (.r [.a,.a,.x 4 (vOf f13) (.v (vOf f12) (.q))]) (.s (.r [.a,.a,.a,.a,.a,.a,.a,.a,.z [.y 9 (vOf f14),.y 16 (vOf f4),.y 17 (vOf f5),.y 34 (vOf f15),.y 38 (vOf f14),.y 39 (vOf f14),.y 48 (vOf f14),.y 49 (vOf f16)] (.a),.x 5 (vOf f20) (.x 6 (vOf f19) (.q))]) (.a))))))))) [] .q (by kernel_rfl)
theorem write_old(n:Nat)(at_:Int)(b:List Int)(rm:Int)(m:ML)(p:PL)(h0:0<=at_)(h1:at_<=1073741824)(hb:b.length<=64)(hp:p.length<=1000000)(ho:okP p)(c:Int)(hk:Yk (Zl m p) at_=some (.int .i64 c))(hc:0<c):
  Zd prog C0 (Z3 prog C0 (n+20)) (n+20) 20 [.ptr 0 0,.int .i64 at_,.isl 1 (bys b)] ⟨1,[(0,dO rm m p)]⟩=some (.nili,⟨1,[(0,dO rm m (p++[(at_,some (Z6 (List.replicate 64 0) 0 b))]))]⟩):=by
 have f1:=right_ok (n+10) at_ h0 h1;have f2:decide (64<((bys b).length:Int))=false:=by simp;omega
 have f3:=needs_ok (n+19) rm m p hp ho;have f4:=zq7_0 b;have f5:LV.bool (decide (64<((bys b).length:Int)))=LV.bool false:=by simp;omega
 have f6:=zq7_1 m;have f7:=zq7_2 rm p 2 3;have f8:Yk (Zl m p) at_=some (LV.int i64 c):=hk;have f9:decide (c=0)=false:=by simp;omega
 have f10:Wa (decide (c=0)) LV.any (LV.bool false)=some (LV.bool false):=by simp;omega
 have f11:Yx true 1 (Zi (bys b))=true:=by simp
 have f12:64<=64:=by omega
 have f13:LV.int i64 (↑(min (List.length (Zi (bys b))) 64):Int)=LV.int i64 (b.length:Int):=by simp (disch:=omega)
 have f14:LObj.row 5 1 (Z7 (List.replicate 64 (LV.int IntKind.u8 0)) 0 (List.take (min (List.length (Zi (bys b))) 64) (Zi (bys b))))=LObj.row 5 1 (bys (Z6 (List.replicate 64 0) 0 b)):=by simp (disch:=omega) [-List.reduceReplicate]
 have f15:(if 4=4 then if 1=1/\0+64<=List.length (bys (Z6 (List.replicate 64 0) 0 b))/\W0 64 none=true then LV.isl 1 (List.take 64 (List.drop 0 (bys (Z6 (List.replicate 64 0) 0 b)))) else LV.any else LV.sl 1 4 0 64 none)=LV.isl 1 (bys (Z6 (List.replicate 64 0) 0 b)):=by simp (disch:=first | omega | (simp;omega)) [-List.reduceReplicate]
 have f16:LV.bool (decide (c=0))=LV.bool false:=by simp;omega
 have f17:LV.agg [.int i64 at_,if 4=4 then if 1=1/\0+64<=List.length (bys (Z6 (List.replicate 64 0) 0 b))/\W0 64 none=true then LV.isl 1 (List.take 64 (List.drop 0 (bys (Z6 (List.replicate 64 0) 0 b)))) else LV.any else LV.sl 1 4 0 64 none]=LV.agg [.int i64 at_,.isl 1 (bys (Z6 (List.replicate 64 0) 0 b))]:=by simp (disch:=first | omega | (simp;omega)) [-List.reduceReplicate]
 have f18:1<=1:=by omega
 have f19:List.length (Zg p)=List.length p/\(List.length p+1)*32<=140737488355328:=by simp;omega
 have f20:=zq7_3 p at_ b;have f21:=zq7_4 at_ b;have f22:List.length (Zg (p++[(at_,some (Z6 (List.replicate 64 0) 0 b))]))=List.length p+1:=by simp
 have f23:=zq7_6 rm m p at_ b;exact drn (fun h=>ai (f1)<|ai (congrArg LV.bool f2)<|ai (f3)<|ai (f4)<|ai (f5)<|ai (congrArg some f6)<|ai (congrArg some f7)<|ai (f8)<|ai (congrArg some f9)<|ai (congrArg some f9)<|ai (congrArg some f9)<|ai (congrArg some f9)<|ai (congrArg some f9)<|ai (congrArg some f9)<|ai (congrArg some f9)<|ai (Yp (st:=(St.mk 4 [(3,LObj.row 88 2 (Zg p)),(2,LObj.map i64 (Zm m)),(0,LObj.box 77 [.int i64 rm,.map 2,.sl 2 3 0 (List.length p) none]),(1,LObj.map i64 (Zl m p))])) f10)<|ai (f11)<|ai (f12)<|ai (f13)<|ai (congrArg some f14)<|ai (f15)<|ai (f4)<|ai (f5)<|ai (f16)<|ai (f16)<|ai (f15)<|ai (f15)<|ai (f15)<|ai (f17)<|ai (f18)<|ai (f19)<|ai (congrArg some f20)<|ai (congrArg some f21)<|ai (f22)<|f23) (.s (.a) (.s (.s (.r [.a,.f (rOf f1)]) (.a)) (.s (.s (.a) (.b false (.a))) (.s (.r [.a,.f (rOf f3)]) (.s (.s (.d [.y 16 (vOf f4),.y 17 (vOf f5),.x 2 (vOf f6),.x 0 (vOf f7)] [.a,.a,.o (vOf f8),.a,.a,.g false (.a),.g false (.a),.g false (.a),.g false (.a),.g false (.a),.g false (.a)] [] [.g false (.a),.t (rOf (Yp (st:=(St.mk 4 [(3,LObj.row 88 2 (Zg p)),(2,LObj.map i64 (Zm m)),(0,LObj.box 77 [.int i64 rm,.map 2,.sl 2 3 0 (List.length p) none]),(1,LObj.map i64 (Zl m p))])) f10))]) (.a)) (.s (.a) (.s (.r [.a,.a,.x 4 (vOf f14) (.v (vOf f13) (.q))]) (.s (.r [.a,.a,.a,.a,.a,.a,.a,.a,.z [.y 9 (vOf f15),.y 16 (vOf f4),.y 17 (vOf f5),.y 26 (vOf f16),.y 27 (vOf f16),.y 38 (vOf f15),.y 39 (vOf f15),.y 48 (vOf f15),.y 49 (vOf f17)] (.a),.x 5 (vOf f21) (.x 6 (vOf f20) (.q))]) (.a))))))))) [] .q (by kernel_rfl)
theorem new_ok(n:Nat)(r:Int)(h0:0<=r)(h1:r<=1073741824):Zd prog C0 (Z3 prog C0 (n+10)) (n+10) 11 [.int .i64 r] ⟨0,[]⟩=some (.tup [.ptr 0 0,.nili],⟨1,[(0,dO r [] [])]⟩):=by
 have f1:decide (r<0)=false:=by simp;omega
 have f2:LV.bool (if decide (r<0)=true then true else decide (1073741824<r))=LV.bool false:=by simp;omega
 exact drn (fun h=>ai (congrArg some f1)<|ai (congrArg some f1)<|ai (f2)<|h) (.s (.a) (.s (.s (.r [.a,.a,.a,.g false (.a),.g false (.a),.v (vOf f2) (.a)]) (.a)) (.a))) [] .a (by kernel_rfl)
theorem clone_ok(n:Nat)(m:ML):Zd prog C0 (Z3 prog C0 (n+5)) (n+5) 39 [.map 0] ⟨1,[(0,.map .i64 (Zm m))]⟩=some (.map 1,⟨2,[(0,.map .i64 (Zm m)),(1,.map .i64 (Zm m))]⟩):=by
 exact drn (fun h=>h) (.a) [] .a (by kernel_rfl)
abbrev aE(p:PL)(i:Int):LEnv:=[.any,.any,.any,.map 3,.any,.any,.any,.any,.any,.any,.any,.any,.any,.any,.sl 2 2 0 p.length none,.int i64 p.length,.int i64 i,.any,.any,.any,.any,.any,.any,.any,.any]
abbrev aS(rm:Int)(m:ML)(p:PL)(w:List (Int × LV)):St:=⟨4,[(0,LObj.box 77 [.int i64 rm,.map 1,.sl 2 2 0 p.length none]),
    (1,LObj.map i64 (Zm m)),(2,LObj.row 88 2 (Zg p)),
    (3,LObj.map i64 w)]⟩
abbrev aX(p:PL)(i:Int):LEnv:=[.any,.any,.any,.map 3,.any,.any,.any,.any,.any,.any,.any,.any,.any,.any,.any,.any,.any,.any,.any,.any,.any,.any,.any,.any,.any]
theorem after_end(n fu:Nat)(rm:Int)(m:ML)(p:PL)(w:List (Int × LV))(i:Int)(hi:p.length<=i):Z2 prog C0 (n+40) 47 0 1 (fu+1) (aE p i) (aS rm m p w)=some (.exit 0,aX p i,aS rm m p w):=by
 have f1:decide (i<(p.length:Int))=false:=by simp;omega
 exact dlp (fun h=>ai (congrArg LV.bool f1)<|h) (.i (.s (.a) (.s (.b false (.a)) .a)) (.a)) (by kernel_rfl)
theorem after_some(n fu:Nat)(rm:Int)(m:ML)(p:PL)(w:List (Int × LV))(i:Int)(h0:0<=i)(hi:i<p.length)(hp:p.length<=100000)(a:Int)(b:List Int)(hb:b≠[])(hx:(Zg p)[i.toNat]? = some (.agg [.int .i64 a,.isl 1 (bys b)]))(r:LX × LEnv × St)(hr:Z2 prog C0 (n+40) 47 0 1 fu (aE p (i+1)) (aS rm m p (Wy w a (.isl 1 (bys b))))=some r):Z2 prog C0 (n+40) 47 0 1 (fu+1) (aE p i) (aS rm m p w)=some r:=by
 have f1:decide (i<(p.length:Int))=true:=by simp;omega
 have f2:0<=i/\i<(p.length:Int):=by omega
 have f3:LV.pel 2 2 (0+i.toNat) 0=LV.pel 2 2 (i.toNat) 0:=by simp
 have f4:(Zg p)[i.toNat]? = some (LV.agg [.int i64 a,.isl 1 (bys b)]):=hx;have f5:=bput_some (n+29) a b w hb;have f6:LV.int i64 (IntKind.wrap i64 (i+1))=LV.int i64 (i+1):=by simp (disch:=omega)
 have f7:=hr;exact dlp (fun h=>ai (congrArg LV.bool f1)<|ai (f2)<|ai (f3)<|ai (f4)<|ai (f5)<|ai (f6)<|ai (Eq.refl (Zc f7))<|ai (f7)<|h) (.i (.s (.a) (.s (.b true (.a)) (.s (.k (.s (.r [.v (vOf f3) (.q),.e (rOf f4)]) (.r [.a,.a,.f (rOf f5)]))) (.r [.v (vOf f6) (.a)])))) (.h [] (eOf f7) (Y2 f7) (rOf f7))) (by kernel_rfl)
theorem after_none(n fu:Nat)(rm:Int)(m:ML)(p:PL)(w:List (Int × LV))(i:Int)(h0:0<=i)(hi:i<p.length)(hp:p.length<=100000)(a:Int)(hx:(Zg p)[i.toNat]? = some (.agg [.int .i64 a,.nils]))(r:LX × LEnv × St)(hr:Z2 prog C0 (n+40) 47 0 1 fu (aE p (i+1)) (aS rm m p (kdel w a))=some r):Z2 prog C0 (n+40) 47 0 1 (fu+1) (aE p i) (aS rm m p w)=some r:=by
 have f1:decide (i<(p.length:Int))=true:=by simp;omega
 have f2:0<=i/\i<(p.length:Int):=by omega
 have f3:LV.pel 2 2 (0+i.toNat) 0=LV.pel 2 2 (i.toNat) 0:=by simp
 have f4:(Zg p)[i.toNat]? = some (LV.agg [.int i64 a,.nils]):=hx;have f5:=bput_none (n+29) a w;have f6:LV.int i64 (IntKind.wrap i64 (i+1))=LV.int i64 (i+1):=by simp (disch:=omega)
 have f7:=hr;exact dlp (fun h=>ai (congrArg LV.bool f1)<|ai (f2)<|ai (f3)<|ai (f4)<|ai (f5)<|ai (f6)<|ai (Eq.refl (Zc f7))<|ai (f7)<|h) (.i (.s (.a) (.s (.b true (.a)) (.s (.k (.s (.r [.v (vOf f3) (.q),.e (rOf f4)]) (.r [.a,.a,.f (rOf f5)]))) (.r [.v (vOf f6) (.a)])))) (.h [] (eOf f7) (Y2 f7) (rOf f7))) (by kernel_rfl)
def applyP:PL->List (Int × LV)->List (Int × LV)
 | [],w=>w
 | (a,some b)::q,w=>applyP q (Wy w a (.isl 1 (bys b)))
 | (a,none)::q,w=>applyP q (kdel w a)
theorem after_loop(n:Nat)(rm:Int)(m:ML)(p:PL)(hp:p.length<=100000)(hb:∀ x∈p,∀ b,x.2=some b->b≠[]):∀ (q:PL) (i:Int) (w:List (Int × LV)) (fu:Nat),
  0<=i->p.drop i.toNat=q->q.length<fu->Z2 prog C0 (n+40) 47 0 1 fu (aE p i) (aS rm m p w)=some (.exit 0,aX p (i+q.length),aS rm m p (applyP q w))
 | [],i,w,fu,h0,hd,hf=>by
  obtain ⟨k,rfl⟩:∃ k,fu=k+1:=⟨fu-1,by simp at hf;omega⟩
  have:p.length<=i.toNat:=by simpa using hd
  rw [after_end n k rm m p w i (by omega)]
  simp [applyP]
 | x::q,i,w,fu,h0,hd,hf=>by
  obtain ⟨k,rfl⟩:∃ k,fu=k+1:=⟨fu-1,by simp at hf;omega⟩
  have hlt:i.toNat<p.length:=by
   apply Classical.byContradiction;intro h;rw [List.drop_of_length_le (by omega)] at hd;simp at hd
  have hx:p[i.toNat]? = some x:=by
   have:=congrArg List.head? hd;simpa [List.head?_drop] using this
  have hd2:p.drop (i+1).toNat=q:=by
   have e:(i+1).toNat=i.toNat+1:=by omega
   rw [e,<- List.drop_drop,hd];rfl
  have ih:=fun w'=>after_loop n rm m p hp hb q (i+1) w' k (by omega) hd2 (by simp at hf;omega)
  have hxl:(Zg p)[i.toNat]? = some (pnd x):=by simp only [Zg,List.getElem?_map,hx,Option.map_some]
  have hlen:i+1+(q.length:Int)=i+((x::q).length:Int):=by simp;omega
  obtain ⟨a,ob⟩:=x
  cases ob with
  | some b =>
   rw [after_some n k rm m p w i h0 (by omega) hp a b (hb (a,some b) (List.mem_of_getElem? hx) b rfl) hxl _ (ih _),hlen]
   rfl
  | none =>
   rw [after_none n k rm m p w i h0 (by omega) hp a hxl _ (ih _),hlen]
   rfl
def mput:ML->Int->List Int->ML
 | [],n,x=>[(n,x)]
 | (k,v)::l,n,x=>if k=n then (n,x)::l else if n<k then (n,x)::(k,v)::l else (k,v)::mput l n x
def mdel:ML->Int->ML
 | [],_=>[]
 | (k,v)::l,n=>if k=n then l else (k,v)::mdel l n
theorem after_ok(n:Nat)(rm:Int)(m:ML)(p:PL)(hp:p.length<=100000)(hn:p.length<=n)(hb:∀ x∈p,∀ b,x.2=some b->b≠[]):
  Zd prog C0 (Z3 prog C0 (n+40)) (n+40) 47 [.ptr 0 0] ⟨1,[(0,dO rm m p)]⟩=some (.map 1,⟨2,[(0,dO rm m p),(1,.map .i64 (applyP p (Zm m)))]⟩):=by
 have L:=after_loop n rm m p hp hb p 0;have f1:=zq7_1 m;have f2:=clone_ok (n+34) m;have f3:LV.sl 2 2 0 (List.length (Zg p)) none=LV.sl 2 2 0 (List.length p) none:=by simp
 have f4:LV.int i64 ((Zg p).length:Int)=LV.int i64 (p.length:Int):=by simp
 have f5:=zq7_2 rm p 1 2;have f6:=L (Zm m) (n+40) (by omega) (by simp) (by omega)
 have f7:List.length (Zg p)=List.length p:=by simp
 have f8:(LV.map 1,St.mk 2 [(0,LObj.box 77 [.int i64 rm,.omap i64 (List.map (·.1) (Zm m)) (List.map (·.2) (Zm m)),.own 88 2 (Zg p)]),(1,LObj.map i64 (applyP p (Zm m)))])=(LV.map 1,St.mk 2 [(0,dO rm m p),(1,LObj.map i64 (applyP p (Zm m)))]):=by simp
 exact drn (fun h=>ai (congrArg some f1)<|ai (f2)<|ai (f3)<|ai (f4)<|ai (congrArg some f5)<|ai (Eq.refl (Zc f6))<|ai (f6)<|ai (f7)<|f8) (.s (.a) (.s (.r [.a,.a,.a,.x 1 (vOf f1) (.a),.f (rOf f2)]) (.s (.s (.a) (.k (.l (.h [.y 14 (vOf f3),.y 15 (vOf f4),.x 0 (vOf f5)] (eOf f6) (Y2 f6) (rOf f6))))) (.a)))) [] .q (by kernel_rfl)
theorem dsync_ok(n:Nat)(rm:Int)(m m':ML)(p:PL)(hp:p.length<=100000)(hn:p.length<=n)(hb:∀ x∈p,∀ b,x.2=some b->b≠[])(hm:applyP p (Zm m)=Zm m'):
  Zd prog C0 (Z3 prog C0 (n+41)) (n+41) 22 [.ptr 0 0] ⟨1,[(0,dO rm m p)]⟩=some (.tup [],⟨1,[(0,dO rm m' [])]⟩):=by
 have A:=after_ok n rm m p hp hn hb;have f1:=A
 have f2:(LV.tup [],St.mk 1 [(0,LObj.box 77 [.int i64 rm,.omap i64 (List.map (·.1) (applyP p (Zm m))) (List.map (·.2) (applyP p (Zm m))),.own 88 2 []])])=(LV.tup [],St.mk 1 [(0,dO rm m' [])]):=by simp (disch:=omega) [-List.reduceReplicate,hp,hn,hm,A]
 exact drn (fun h=>ai (f1)<|f2) (.s (.r [.a,.a,.f (rOf f1)]) (.a)) [] .q (by kernel_rfl)
def Wx(at_:Int):PL->Option (Option (List Int))
 | []=>none
 | (a,b)::l=>match Wx at_ l with
  | some x=>some x
  | none=>if a=at_ then some b else none
def mget:ML->Int->Option (List Int)
 | [],_=>none
 | (k,v)::l,n=>if k=n then some v else mget l n
def rd(m:ML)(p:PL)(at_:Int):List Int:=
 match Wx at_ p with
 | some (some b)=>blk b
 | some none=>blk []
 | none=>match mget m at_ with
  | some b=>blk b
  | none=>blk []
theorem lastOf_pnds(at_:Int):∀ p,lastOf at_ (Zg p)=(Wx at_ p).map fun o=>match o with | some b=>LV.isl 1 (bys b) | none=>.nils
 | []=>rfl
 | (a,ob)::p=>by
  have ih:=lastOf_pnds at_ p
  show lastOf at_ (pnd (a,ob)::Zg p)=_
  simp only [pnd,lastOf,ih,Wx]
  cases Wx at_ p with
  | some x=>rfl
  | none =>
   simp only [Option.map_none]
   split
   ·cases ob <;> rfl
   ·rfl
theorem kget_mapE(at_:Int):∀ m,Yk (Zm m) at_=(mget m at_).map fun b=>LV.isl 1 (bys b)
 | []=>rfl
 | (k,b)::m=>by
  have ih:=kget_mapE at_ m
  show Yk ((k,.isl 1 (bys b))::Zm m) at_=_
  simp only [Yk,mget,ih]
  split <;> rfl
theorem blk_padS(b:List Int):(b++List.replicate 64 0).take 64=blk b:=by
 unfold blk Z6
 rcases Nat.lt_or_ge b.length 64 with h | h
 ·rw [Nat.min_eq_left (by omega),List.take_of_length_le (Nat.le_refl _),List.take_append,List.take_of_length_le (by omega),List.take_replicate,List.take_zero,List.nil_append,Nat.zero_add,List.drop_replicate,Nat.min_eq_left (by omega)]
 ·rw [Nat.min_eq_right h,List.take_append_of_le_length h,List.take_zero,List.nil_append,Nat.zero_add,List.length_take,Nat.min_eq_left h,List.drop_replicate]
  simp
theorem pad64_bys(b:List Int):pad64 (.isl 1 (bys b))=.isl 1 (bys (blk b)):=by
 rw [<- blk_padS];simp [pad64,bys]
theorem pad64_nils:pad64 .nils=.isl 1 (bys (blk [])):=by
 rw [<- blk_padS];simp [pad64,bys]
theorem xRead_ok(rm:Int)(m:ML)(p:PL)(at_:Int)(h0:0<=at_)(h1:at_<=1073741824)(hp:p.length<=1000000)(ho:okP p):
  xRead [.ptr 0 0,.int .i64 at_] ⟨1,[(0,dO rm m p)]⟩=some (.tup [.isl 1 (bys (rd m p at_)),.nili],⟨1,[(0,dO rm m p)]⟩):=by
 have g1:=okW_pnds ho;have g2:(Zg p).length<=1048576:=by simp;omega
 simp only [xRead,St.look,Yh,if_true,g1,g2,okBs_mapV,and_self];rw [if_neg (by omega),lastOf_pnds,zip_mapKV,kget_mapE]
 unfold rd
 cases Wx at_ p with
 | some o=>cases o <;> simp only [Option.map_some,pad64_bys,pad64_nils]
 | none =>
  simp only [Option.map_none]
  cases mget m at_ <;> simp only [Option.map_some,Option.map_none,pad64_bys,pad64_nils]
theorem dread_ok(n:Nat)(rm:Int)(m:ML)(p:PL)(at_:Int)(h0:0<=at_)(h1:at_<=1073741824)(hp:p.length<=1000000)(ho:okP p):
  Zd prog C0 (Z3 prog C0 n) n 21 [.ptr 0 0,.int .i64 at_] ⟨1,[(0,dO rm m p)]⟩=some (.tup [.isl 1 (bys (rd m p at_)),.nili],⟨1,[(0,dO rm m p)]⟩):=by
 have X:=xRead_ok rm m p at_ h0 h1 hp ho;exact x_runx rfl X (by kernel_rfl)
theorem rd_length(m:ML)(p:PL)(at_:Int):(rd m p at_).length=64:=by
 unfold rd
 repeat' split
 all_goals simp
def ints(b:List Int):List LV:=b.map (LV.int .i64)
@[simp] theorem ints_length(b:List Int):(ints b).length=b.length:=by simp [ints]
@[simp high] theorem ints_get(b:List Int)(i:Nat)(h:i<b.length):(ints b)[i]? = some (.int .i64 (atI b i)):=by simp [ints,h,atI]
@[simp] theorem pnds_one(x:Int × Option (List Int)):Zg [x]=[pnd x]:=rfl
@[simp] theorem pnd_some(a:Int)(b:List Int):pnd (a,some b)=.agg [.int .i64 a,.isl 1 (bys b)]:=rfl
theorem crash_nil(n:Nat)(rm:Int)(m:ML)(ks:List Int)(cut:Int):
  Zd prog C0 (Z3 prog C0 (n+60)) (n+60) 15 [.ptr 0 0,.isl 1 (ints ks),.int .i64 cut] ⟨1,[(0,dO rm m [])]⟩=some (.tup [],⟨1,[(0,dO rm m [])]⟩):=by
 have f1:=zq7_1 m;have f2:=clone_ok (n+54) m;have f3:(LV.tup [],St.mk 1 [(0,LObj.box 77 [.int i64 rm,.omap i64 (List.map (·.1) (Zm m)) (List.map (·.2) (Zm m)),.own 88 2 []])])=(LV.tup [],St.mk 1 [(0,dO rm m [])]):=by simp
 exact drn (fun h=>ai (congrArg some f1)<|ai (f2)<|f3) (.s (.a) (.s (.a) (.s (.r [.a,.a,.a,.x 2 (vOf f1) (.a),.f (rOf f2)]) (.a)))) [] .q (by kernel_rfl)
@[simp] theorem lsplice_none(l:List LV):Z7 l 0 []=l:=by simp [Z7]
theorem zq7_8(a0:Int)(a1:List Int):LV.isl 1 (List.drop 0 (List.take (Int.toNat (Option.getD (some a0) ((bys a1).length:Int))) (bys a1)))=LV.isl 1 (bys (List.take (a0.toNat) a1)):=by simp
theorem zq7_9(a0:Int)(a1:List Int):Yx true 1 (Zi (bys (List.take (a0.toNat) a1)))=true:=by simp
theorem crash_torn0(n:Nat)(rm:Int)(m m':ML)(a:Int)(b:List Int)(hb:b.length=64)(ks:List Int)(hk:0<ks.length)(hk2:¬ atI ks 0=0)(cut:Int)(h0:0<=cut)(h1:cut<64)(hg:Yk (Zm m) a=none)(hm:Wy (Zm m) a (.isl 1 (bys (Z6 (List.replicate 64 0) 0 (b.take cut.toNat))))=Zm m'):
  Zd prog C0 (Z3 prog C0 (n+60)) (n+60) 15 [.ptr 0 0,.isl 1 (ints ks),.int .i64 cut] ⟨1,[(0,dO rm m [(a,some b)])]⟩=some (.tup [],⟨1,[(0,dO rm m' [])]⟩):=by
 have hb2:b≠[]:=by intro h;subst h;simp at hb
 have f1:decide (0<((ints ks).length:Int))=true:=by simp;omega
 have f2:(ints ks)[0]? = some (LV.int i64 (atI ks 0)):=by simp (disch:=omega)
 have f3:(0:Int)<=(0:Int)/\(0:Int)<((ints ks).length:Int):=by simp;omega
 have f4:LObj.row 88 2 (Zg [(a,some b)])=LObj.row 88 2 [.agg [.int i64 a,.isl 1 (bys b)]]:=by simp
 have f5:LV.bool (if decide (0<((ints ks).length:Int))=true then !decide (atI ks 0=0) else false)=LV.bool true:=by simp;omega
 have f6:=zq7_1 m;have f7:=clone_ok (n+54) m;have f8:LV.bool (if false=true then true else decide (atI ks 0=0))=LV.bool false:=by simp;omega
 have f9:List.isEmpty (bys b)=false:=by simp;omega
 have f10:LV.bool (if true=true then decide (0<=cut) else false)=LV.bool true:=by simp;omega
 have f11:LV.bool (if true=true then decide (cut<64) else false)=LV.bool true:=by simp;omega
 have f12:Yk (Zm m) a=none:=hg;have f13:Zd prog C0 (Z3 prog C0 (n+59)) (n+59) 40 [.nils] (St.mk 0 [])=some (LV.sl 1 0 0 64 none,St.mk 1 [(0,LObj.row 5 1 (Z7 (List.replicate 64 (LV.int IntKind.u8 0)) 0 []))]):=by kernel_rfl
 have f14:(0:Int)<=(0:Int)/\(0:Int)<=Option.getD (some cut) ((bys b).length:Int)/\Option.getD (some cut) ((bys b).length:Int)<=((bys b).length:Int):=by simp;omega
 have f15:=zq7_8 cut b;have f16:LObj.row 5 1 (Z7 (List.replicate 64 (LV.int IntKind.u8 0)) 0 [])=LObj.row 5 1 (bys (List.replicate 64 0)):=by simp
 have f17:=zq7_9 cut b;have f18:64<=64:=by omega
 have f19:LV.int i64 (↑(min (List.length (Zi (bys (List.take (cut.toNat) b)))) 64):Int)=LV.int i64 (max cut 0):=by simp (disch:=omega)
 have f20:LObj.row 5 1 (Z7 (bys (List.replicate 64 0)) 0 (List.take (min (List.length (Zi (bys (List.take (cut.toNat) b)))) 64) (Zi (bys (List.take (cut.toNat) b)))))=LObj.row 5 1 (bys (Z6 (List.replicate 64 0) 0 (List.take (cut.toNat) b))):=by simp (disch:=first | omega | (simp;omega)) [-List.reduceReplicate]
 have f21:LV.agg [.int i64 a,if 1=1 then if 1=1/\0+64<=List.length (bys (Z6 (List.replicate 64 0) 0 (List.take (cut.toNat) b)))/\W0 64 none=true then LV.isl 1 (List.take 64 (List.drop 0 (bys (Z6 (List.replicate 64 0) 0 (List.take (cut.toNat) b))))) else LV.any else LV.sl 1 1 0 64 none]=LV.agg [.int i64 a,.isl 1 (bys (Z6 (List.replicate 64 0) 0 (List.take (cut.toNat) b)))]:=by simp (disch:=first | omega | (simp;omega)) [-List.reduceReplicate]
 have f22:(if 1=1 then if 1=1/\0+64<=List.length (bys (Z6 (List.replicate 64 0) 0 (List.take (cut.toNat) b)))/\W0 64 none=true then LV.isl 1 (List.take 64 (List.drop 0 (bys (Z6 (List.replicate 64 0) 0 (List.take (cut.toNat) b))))) else LV.any else LV.sl 1 1 0 64 none)=LV.isl 1 (bys (Z6 (List.replicate 64 0) 0 (List.take (cut.toNat) b))):=by simp (disch:=first | omega | (simp;omega)) [-List.reduceReplicate]
 have f23:LObj.box 88 [.int i64 a,if 1=1 then if 1=1/\0+64<=List.length (bys (Z6 (List.replicate 64 0) 0 (List.take (cut.toNat) b)))/\W0 64 none=true then LV.isl 1 (List.take 64 (List.drop 0 (bys (Z6 (List.replicate 64 0) 0 (List.take (cut.toNat) b))))) else LV.any else LV.sl 1 1 0 64 none]=LObj.box 88 [.int i64 a,.isl 1 (bys (Z6 (List.replicate 64 0) 0 (List.take (cut.toNat) b)))]:=by simp (disch:=first | omega | (simp;omega)) [-List.reduceReplicate]
 have f24:Zd prog C0 (Z3 prog C0 (n+59)) (n+59) 41 [.map 0,.agg [.int i64 a,.sl 1 1 0 64 none]] (St.mk 2 [(0,LObj.map i64 (Zm m)),(1,LObj.row 5 1 (bys (Z6 (List.replicate 64 0) 0 (List.take (cut.toNat) b))))])=some (LV.tup [],St.mk 2 [(0,LObj.map i64 (Wy (Zm m) a (LV.isl 1 (bys (Z6 (List.replicate 64 0) 0 (List.take (cut.toNat) b))))))]):=drn (fun h=>ai (f21)<|ai (f22)<|ai (f22)<|ai (congrArg some f23)<|h) (.s (.a) (.s (.a) (.r [.a,.a,.a,.a,.a,.z [.y 1 (vOf f21),.y 5 (vOf f22),.y 14 (vOf f22),.x 2 (vOf f23)] (.a)]))) [] .a (by kernel_rfl)
 have f25:(LV.tup [],St.mk 1 [(0,LObj.box 77 [.int i64 rm,.omap i64 (List.map (·.1) (Wy (Zm m) a (LV.isl 1 (bys (Z6 (List.replicate 64 0) 0 (List.take (cut.toNat) b)))))) (List.map (·.2) (Wy (Zm m) a (LV.isl 1 (bys (Z6 (List.replicate 64 0) 0 (List.take (cut.toNat) b)))))),.own 88 2 []])])=(LV.tup [],St.mk 1 [(0,dO rm m' [])]):=by simp (disch:=omega) [-List.reduceReplicate,hb,hk,hk2,h0,h1,hg,hm,hb2]
 exact drn (fun h=>ai (congrArg some f1)<|ai (congrArg some f1)<|ai (congrArg some f1)<|ai (f3)<|ai (f2)<|ai (congrArg some f4)<|ai (congrArg some f1)<|ai (congrArg some f1)<|ai (f5)<|ai (congrArg some f6)<|ai (f7)<|ai (f3)<|ai (f2)<|ai (f8)<|ai (f9)<|ai (f10)<|ai (f11)<|ai (f12)<|ai (f13)<|ai (f14)<|ai (f15)<|ai (congrArg some f16)<|ai (f17)<|ai (f18)<|ai (f19)<|ai (congrArg some f20)<|ai (f24)<|f25) (.s (.a) (.s (.s (.a) (.k (.l (.i (.s (.a) (.s (.a) (.s (.k (.s (.a) (.s (.r [.a,.a,.a,.a,.a,.g true (.a),.g true (.a),.g true (.x 1 (vOf f4) (.e (rOf f2))),.g true (.a),.g true (.a),.v (vOf f5) (.a)]) (.a)))) (.a)))) (.a))))) (.s (.r [.a,.a,.a,.x 2 (vOf f6) (.a),.f (rOf f7)]) (.s (.s (.a) (.k (.l (.i (.s (.a) (.s (.a) (.s (.k (.s (.a) (.s (.s (.r [.a,.a,.a,.a,.a,.a,.e (rOf f2),.a,.a,.v (vOf f8) (.a)]) (.a)) (.s (.s (.r [.a,.a,.a,.a,.a,.a,.q,.a,.a,.a,.a,.v (vOf f10) (.a),.a,.a,.a,.v (vOf f11) (.a)]) (.c (.s (.r [.a,.a,.a,.o (vOf f12),.f (rOf f13)]) (.s (.r [.a,.a,.a,.a,.x 5 (vOf f16) (.v (vOf f15) (.q)),.x 5 (vOf f20) (.v (vOf f19) (.q))]) (.a))))) (.r [.a,.a,.f (rOf f24)]))))) (.a)))) (.a))))) (.a))))) [] .q (by kernel_rfl)
def keysOk(l:List (Int × LV)):Prop:=ascB (l.map (·.1))=true/\(∀ x∈l,-9223372036854775808<=x.1/\x.1<=9223372036854775807)/\l.length<=1000000
theorem sorted_ok(n:Nat)(l:List (Int × LV))(h:keysOk l):
  Zd prog C0 (Z3 prog C0 n) n 48 [.fn 65 [] [.ptr 0 0]] ⟨2,[(0,.box 74 [.map 1]),(1,.map .i64 l)]⟩=some (.isl 1 (ints (l.map (·.1))),⟨2,[(0,.box 74 [.map 1]),(1,.map .i64 l)]⟩):=by
 obtain ⟨ha,hw,hn⟩:=h
 have hz3:(l.all fun x=>decide (-9223372036854775808<=x.1)&&decide (x.1<=9223372036854775807))=true:=by
  rw [List.all_eq_true];intro x hx;have:=hw x hx;simp [this.1,this.2]
 have X:xSorted [.fn 65 [] [.ptr 0 0]] ⟨2,[(0,.box 74 [.map 1]),(1,.map .i64 l)]⟩=some (.isl 1 (ints (l.map (·.1))),⟨2,[(0,.box 74 [.map 1]),(1,.map .i64 l)]⟩):=by
  show (if (65:Nat)=65/\ascB (l.map (·.1))=true/\(l.all fun x=>decide (-9223372036854775808<=x.1)&&decide (x.1<=9223372036854775807))=true/\l.length<=1000000 then some (LV.isl 1 ((l.map (·.1)).map (LV.int .i64)),(⟨2,[(0,.box 74 [.map 1]),(1,.map .i64 l)]⟩:St)) else none)=_
  rw [if_pos ⟨rfl,ha,hz3,hn⟩]
  rfl
 exact x_runx rfl X (by kernel_rfl)
abbrev ceE(ks:List Int)(l:LV)(i:Int):LEnv:=[.ptr 0 0,.any,.any,l,.any,.any,.any,.any,.any,.any,.any,.isl 1 (ints ks),.int i64 ks.length,.int i64 i,.any,.any,.any,.any,.any,.any,.any,.any,.any,.any,.any,.any,.any,.any,.any,.any,.any]
abbrev ceS(rm:Int)(m:ML)(p:PL):St:=⟨2,[(0,LObj.box 77 [.int i64 rm,.map 1,.own 88 2 (Zg p)]),(1,LObj.map i64 (Zm m))]⟩
theorem zq7_10(a0:List Int)(q0:Nat):(if q0=q0 then if 1=1/\0+64<=List.length (bys (blk a0))/\W0 64 none=true then LV.isl 1 (List.take 64 (List.drop 0 (bys (blk a0)))) else LV.any else LV.sl 1 q0 0 64 none)=LV.isl 1 (bys (blk a0)):=by simp
theorem cl_step0(n fu:Nat)(rm:Int)(m:ML)(p:PL)(ks:List Int)(hl:ks.length<=1000000)(hk:0<ks.length)(b:List Int)(hg:Yk (Zm m) (atI ks 0)=some (.isl 1 (bys b)))(r:LX × LEnv × St)(hr:Z2 prog C0 (n+60) 23 0 1 fu (ceE ks (.sl 2 2 0 1 none) 1) ⟨3,[(0,LObj.box 77 [.int i64 rm,.map 1,.own 88 2 (Zg p)]),(1,LObj.map i64 (Zm m)),(2,.row 52 2 [.agg [.int .i64 (atI ks 0),.isl 1 (bys (blk b))]])]⟩=some r):
  Z2 prog C0 (n+60) 23 0 1 (fu+1) (ceE ks .nils 0) (ceS rm m p)=some r:=by
 have f1:decide (0<(ks.length:Int))=true:=by simp;omega
 have f2:(ints ks)[0]? = some (LV.int i64 (atI ks 0)):=by simp (disch:=omega)
 have f3:(0:Int)<=(0:Int)/\(0:Int)<((ints ks).length:Int):=by simp;omega
 have f4:Yk (Zm m) (atI ks 0)=some (LV.isl 1 (bys b)):=hg;have f5:=whole_ok (n+50) b;have f6:LV.bool (decide (0<(ks.length:Int)))=LV.bool true:=by simp;omega
 have f7:=zq7_10 b 2;have f8:LV.agg [.int i64 (atI ks 0),if 2=2 then if 1=1/\0+64<=List.length (bys (blk b))/\W0 64 none=true then LV.isl 1 (List.take 64 (List.drop 0 (bys (blk b)))) else LV.any else LV.sl 1 2 0 64 none]=LV.agg [.int i64 (atI ks 0),.isl 1 (bys (blk b))]:=by simp
 have f9:LObj.row 52 2 (List.take 1 (List.drop 0 (List.set [.agg [.int i64 0,.nils]] 0 (LV.agg [.int i64 (atI ks 0),.isl 1 (bys (blk b))]))))=LObj.row 52 2 [.agg [.int i64 (atI ks 0),.isl 1 (bys (blk b))]]:=by simp
 have f10:=hr;exact dlp (fun h=>ai (congrArg LV.bool f1)<|ai (f3)<|ai (f2)<|ai (f4)<|ai (f5)<|ai (f6)<|ai (f7)<|ai (f8)<|ai (congrArg some f9)<|ai (Eq.refl (Zc f10))<|ai (f10)<|h) (.i (.s (.a) (.s (.b true (.a)) (.s (.k (.s (.r [.e (rOf f2)]) (.r [.a,.a,.a,.a,.a,.a,.a,.o (vOf f4),.f (rOf f5),.a,.z [.y 14 (vOf f6),.y 25 (vOf f7),.y 26 (vOf f8)] (.a)]))) (.a)))) (.h [.x 2 (vOf f9)] (eOf f10) (Y2 f10) (rOf f10))) (by kernel_rfl)
abbrev ceT(rm:Int)(m:ML)(p:PL)(cs:List LV):St:=⟨3,[(0,LObj.box 77 [.int i64 rm,.map 1,.own 88 2 (Zg p)]),(1,LObj.map i64 (Zm m)),(2,.row 52 2 cs)]⟩
theorem cl_step(n fu:Nat)(rm:Int)(m:ML)(p:PL)(ks:List Int)(hl:ks.length<=1000000)(k:Nat)(h0:0<k)(hk:k<ks.length)(b:List Int)(hg:Yk (Zm m) (atI ks k)=some (.isl 1 (bys b)))(cs:List LV)(hcs:cs.length=k)(r:LX × LEnv × St)(hr:Z2 prog C0 (n+60) 23 0 1 fu (ceE ks (.sl 2 2 0 (k+1) none) ((k:Int)+1)) (ceT rm m p (cs++[.agg [.int .i64 (atI ks k),.isl 1 (bys (blk b))]]))=some r):
  Z2 prog C0 (n+60) 23 0 1 (fu+1) (ceE ks (.sl 2 2 0 k none) k) (ceT rm m p cs)=some r:=by
 have e1:(ints ks)[k]? = some (.int .i64 (atI ks k)):=by simp [hk]
 have f1:decide ((↑k:Int)<(ks.length:Int))=true:=by simp;omega
 have f2:(ints ks)[Int.toNat (↑k:Int)]? = some (LV.int i64 (atI ks k)):=by simp (disch:=omega)
 have f3:0<=(↑k:Int)/\(↑k:Int)<((ints ks).length:Int):=by simp;omega
 have f4:Yk (Zm m) (atI ks k)=some (LV.isl 1 (bys b)):=hg;have f5:=whole_ok (n+50) b;have f6:LV.bool (decide ((↑k:Int)<(ks.length:Int)))=LV.bool true:=by simp;omega
 have f7:=zq7_10 b 3;have f8:LV.agg [.int i64 (atI ks k),if 3=3 then if 1=1/\0+64<=List.length (bys (blk b))/\W0 64 none=true then LV.isl 1 (List.take 64 (List.drop 0 (bys (blk b)))) else LV.any else LV.sl 1 3 0 64 none]=LV.agg [.int i64 (atI ks k),.isl 1 (bys (blk b))]:=by simp
 have f9:1<=1:=by omega
 have f10:List.length cs=k/\(k+1)*32<=140737488355328:=by omega
 have f11:LObj.row 52 2 (cs++List.take 1 (List.drop 0 (List.set [.agg [.int i64 0,.nils]] 0 (LV.agg [.int i64 (atI ks k),.isl 1 (bys (blk b))]))))=LObj.row 52 2 (cs++[.agg [.int i64 (atI ks k),.isl 1 (bys (blk b))]]):=by simp
 have f12:LObj.row 52 2 (List.set [.agg [.int i64 0,.nils]] 0 (LV.agg [.int i64 (atI ks k),.isl 1 (bys (blk b))]))=LObj.row 52 2 [.agg [.int i64 (atI ks k),.isl 1 (bys (blk b))]]:=by simp
 have f13:LV.int i64 (IntKind.wrap i64 ((↑k:Int)+1))=LV.int i64 ((↑k:Int)+1):=by simp (disch:=omega)
 have f14:=hr;exact dlp (fun h=>ai (congrArg LV.bool f1)<|ai (f3)<|ai (f2)<|ai (f4)<|ai (f5)<|ai (f6)<|ai (f7)<|ai (f8)<|ai (f9)<|ai (f10)<|ai (congrArg some f11)<|ai (congrArg some f12)<|ai (f13)<|ai (Eq.refl (Zc f14))<|ai (f14)<|h) (.i (.s (.a) (.s (.b true (.a)) (.s (.k (.s (.r [.e (rOf f2)]) (.r [.a,.a,.a,.a,.a,.a,.a,.o (vOf f4),.f (rOf f5),.a,.z [.y 14 (vOf f6),.y 25 (vOf f7),.y 26 (vOf f8)] (.a),.x 4 (vOf f12) (.x 5 (vOf f11) (.q))]))) (.r [.v (vOf f13) (.a)])))) (.h [] (eOf f14) (Y2 f14) (rOf f14))) (by kernel_rfl)
abbrev ceX(ks:List Int)(l:LV)(i:Int):LEnv:=[.any,.any,.any,l,.any,.any,.any,.any,.any,.any,.any,.any,.any,.any,.any,.any,.any,.any,.any,.any,.any,.any,.any,.any,.any,.any,.any,.any,.any,.any,.any]
theorem cl_end(n fu:Nat)(rm:Int)(m:ML)(p:PL)(ks:List Int)(hl:ks.length<=1000000)(k:Nat)(h0:0<k)(hk:ks.length<=k)(cs:List LV):
  Z2 prog C0 (n+60) 23 0 1 (fu+1) (ceE ks (.sl 2 2 0 k none) k) (ceT rm m p cs)=some (.exit 0,ceX ks (.sl 2 2 0 k none) k,ceT rm m p cs):=by
 have f1:decide ((↑k:Int)<(ks.length:Int))=false:=by simp;omega
 exact dlp (fun h=>ai (congrArg LV.bool f1)<|h) (.i (.s (.a) (.s (.b false (.a)) .a)) (.a)) (by kernel_rfl)
def cellL(x:Int × List Int):LV:=.agg [.int .i64 x.1,.isl 1 (bys (blk x.2))]
def Zb(m:ML):List LV:=m.map cellL
@[simp] theorem cellsL_length(m:ML):(Zb m).length=m.length:=by simp [Zb]
theorem cells_thru(n:Nat)(rm:Int)(m:ML)(p:PL)(ho:keysOk (Zm m))(h0:0<m.length)(k:Nat)(hk:k=m.length)(L:Z2 prog C0 (n+60) 23 0 1 (n+60) (ceE (Zn m) .nils 0) (ceS rm m p)=some (.exit 0,ceX (Zn m) (.sl 2 2 0 k none) k,ceT rm m p (Zb m))):
  Zd prog C0 (Z3 prog C0 (n+60)) (n+60) 23 [.ptr 0 0] ⟨1,[(0,dO rm m p)]⟩=some (.isl 2 (Zb m),⟨1,[(0,dO rm m p)]⟩):=by
 have S:=fun n=>sorted_ok n (Zm m) ho
 have hE:(Zb m).take m.length=Zb m:=List.take_of_length_le (by simp)
 have f1:=zq7_1 m;have f2:=S (n+59);have f3:LV.isl 1 (ints (List.map (·.1) (Zm m)))=LV.isl 1 (ints (Zn m)):=by simp
 have f4:LV.int i64 ((ints (Zn m)).length:Int)=LV.int i64 ((Zn m).length:Int):=by simp
 have f5:=L
 have f6:(if 2=2 then if 2=2/\0+k<=List.length (Zb m)/\W0 k none=true then LV.isl 2 (List.take k (List.drop 0 (Zb m))) else LV.any else LV.sl 2 2 0 k none)=LV.isl 2 (Zb m):=by simp (disch:=omega) [-List.reduceReplicate,ho,h0,hk,L,S,hE]
 have f7:(LV.isl 2 (Zb m),St.mk 1 [(0,LObj.box 77 [.int i64 rm,.omap i64 (List.map (·.1) (Zm m)) (List.map (·.2) (Zm m)),.own 88 2 (Zg p)])])=(LV.isl 2 (Zb m),St.mk 1 [(0,dO rm m p)]):=by simp
 exact drn (fun h=>ai (congrArg some f1)<|ai (f2)<|ai (f3)<|ai (f4)<|ai (Eq.refl (Zc f5))<|ai (f5)<|ai (f6)<|f7) (.s (.a) (.s (.a) (.s (.s (.r [.a,.a,.a,.x 1 (vOf f1) (.a),.a,.v (vOf f3) (.f (rOf f2))]) (.k (.l (.h [.y 12 (vOf f4)] (eOf f5) (Y2 f5) (rOf f5))))) (.a)))) [.y 0 (vOf f6)] .q (by kernel_rfl)
theorem cells_none(n:Nat)(rm:Int)(p:PL):
  Zd prog C0 (Z3 prog C0 (n+60)) (n+60) 23 [.ptr 0 0] ⟨1,[(0,dO rm [] p)]⟩=some (.isl 2 [],⟨1,[(0,dO rm [] p)]⟩):=by
 have S:∀ n,Zd prog C0 (Z3 prog C0 n) n 48 [.fn 65 [] [.ptr 0 0]] ⟨2,[(0,.box 74 [.map 1]),(1,.map .i64 [])]⟩=some (.isl 1 [],⟨2,[(0,.box 74 [.map 1]),(1,.map .i64 [])]⟩):=fun n=>sorted_ok n [] ⟨rfl,by simp,by simp⟩
 have f1:=S (n+59);exact drn (fun h=>ai (f1)<|h) (.s (.a) (.s (.a) (.s (.s (.r [.a,.a,.a,.a,.a,.f (rOf f1)]) (.a)) (.a)))) [] .a (by kernel_rfl)
theorem ascB_lt:∀ {l:List Int},ascB l=true->l.Pairwise (fun a b=>a<b)
 | [],_=>.nil
 | [_],_=>.cons (by simp) .nil
 | a::b::l,h=>by
  simp only [ascB,Bool.and_eq_true,decide_eq_true_eq] at h;have ih:=ascB_lt h.2;refine .cons (fun c hc=>?_) ih
  rcases List.mem_cons.1 hc with rfl | hc
  ·omega
  ·have:=(List.pairwise_cons.1 ih).1 c hc
   omega
theorem mget_at:∀ {m:ML} {k:Nat} {a:Int} {b:List Int},ascB (Zn m)=true->m[k]? = some (a,b)->mget m a=some b
 | [],_,_,_,_,h=>by simp at h
 | (c,d)::m,0,a,b,_,h=>by
  have h:(c,d)=(a,b):=by simpa using h
  cases h
  simp [mget]
 | (c,d)::m,k+1,a,b,ha,h=>by
  have h:m[k]? = some (a,b):=by simpa using h
  have hp:=ascB_lt ha;have hp:(c::Zn m).Pairwise (fun a b=>a<b):=hp
  have hlt:c<a:=(List.pairwise_cons.1 hp).1 a (List.mem_map.2 ⟨(a,b),List.mem_of_getElem? h,rfl⟩);have ha2:ascB (Zn m)=true:=by
   cases m with
   | nil=>rfl
   | cons x m =>
    have ha:(decide (c<x.1)&&ascB (Zn (x::m)))=true:=ha;simp only [Bool.and_eq_true] at ha;exact ha.2
  have ih:=mget_at ha2 h;have:¬ c=a:=by omega
  simp [mget,this,ih]
theorem keysOk_asc{m:ML}(h:keysOk (Zm m)):ascB (Zn m)=true:=by
 have:=h.1
 rwa [mapE_fst] at this
theorem cells_loop(n:Nat)(rm:Int)(m:ML)(p:PL)(ho:keysOk (Zm m)):∀ (q k fu:Nat),0<k->k+q=m.length->q<fu ->
  Z2 prog C0 (n+60) 23 0 1 fu (ceE (Zn m) (.sl 2 2 0 k none) k) (ceT rm m p (Zb (m.take k)))=some (.exit 0,ceX (Zn m) (.sl 2 2 0 m.length none) m.length,ceT rm m p (Zb m))
 | 0,k,fu,h0,hk,hf=>by
  obtain ⟨fu,rfl⟩:∃ k,fu=k+1:=⟨fu-1,by omega⟩
  have e:k=m.length:=by omega
  have hl:(Zn m).length=m.length:=by simp [Zn]
  have hb:=ho.2.2;have hb:m.length<=1000000:=by simpa [Zm] using hb
  have:=cl_end n fu rm m p (Zn m) (by omega) k h0 (by omega) (Zb (m.take k))
  rw [this];subst e;rw [List.take_length]
 | q+1,k,fu,h0,hk,hf=>by
  obtain ⟨fu,rfl⟩:∃ k,fu=k+1:=⟨fu-1,by omega⟩
  have hl:(Zn m).length=m.length:=by simp [Zn]
  have hb:=ho.2.2;have hb:m.length<=1000000:=by simpa [Zm] using hb
  have hlt:k<m.length:=by omega
  have hx:m[k]? = some m[k]:=List.getElem?_eq_getElem hlt;have ha:atI (Zn m) k=m[k].1:=by
   unfold atI;rw [List.getD_eq_getElem?_getD];simp [Zn,hx]
  have hg:Yk (Zm m) (atI (Zn m) k)=some (.isl 1 (bys m[k].2)):=by
   rw [ha,kget_mapE,mget_at (keysOk_asc ho) (show m[k]? = some (m[k].1,m[k].2) from hx)]
   rfl
  have ih:=cells_loop n rm m p ho q (k+1) fu (by omega) (by omega) (by omega)
  have et:Zb (m.take (k+1))=Zb (m.take k)++[.agg [.int .i64 (atI (Zn m) k),.isl 1 (bys (blk m[k].2))]]:=by
   rw [ha];unfold Zb;rw [List.take_add_one,hx,List.map_append]
   rfl
  rw [et] at ih;refine cl_step n fu rm m p (Zn m) (by omega) k h0 (by omega) _ hg _ (by simp;omega) _ ?_
  exact ih
theorem cells_ok(n:Nat)(rm:Int)(m:ML)(p:PL)(ho:keysOk (Zm m))(hn:m.length<n+60):
  Zd prog C0 (Z3 prog C0 (n+60)) (n+60) 23 [.ptr 0 0] ⟨1,[(0,dO rm m p)]⟩=some (.isl 2 (Zb m),⟨1,[(0,dO rm m p)]⟩):=by
 cases m with
 | nil=>exact cells_none n rm p
 | cons x m =>
  have hb:=ho.2.2;have hb:(x::m).length<=1000000:=by simpa [Zm] using hb
  refine cells_thru n rm (x::m) p ho (by simp) (x::m).length rfl ?_
  have L:=cells_loop n rm (x::m) p ho m.length 1 (n+59) (by omega) (by simp;omega) (by simp at hn;omega)
  refine cl_step0 n (n+59) rm (x::m) p (Zn (x::m)) (by simpa [Zn] using hb) (by simp [Zn]) x.2 (by
   show Yk ((x.1,.isl 1 (bys x.2))::Zm m) x.1=_
   simp [Yk]) _ ?_
  exact L
theorem used_ok(n:Nat)(rm:Int)(m:ML)(p:PL)(hp:p.length<=1000000)(ho:okP p):Zd prog C0 (Z3 prog C0 (n+20)) (n+20) 34 [.ptr 0 0] ⟨1,[(0,dO rm m p)]⟩=some (.int .i64 (Zl m p).length,⟨1,[(0,dO rm m p)]⟩):=by
 have f1:=needs_ok (n+19) rm m p hp ho;exact drn (fun h=>ai (f1)<|h) (.s (.a) (.s (.r [.a,.f (rOf f1)]) (.a))) [] .a (by kernel_rfl)
theorem room_ok(n:Nat)(rm:Int)(m:ML)(p:PL):Zd prog C0 (Z3 prog C0 (n+20)) (n+20) 43 [.ptr 0 0] ⟨1,[(0,dO rm m p)]⟩=some (.int .i64 rm,⟨1,[(0,dO rm m p)]⟩):=by
 exact drn (fun h=>h) (.a) [] .a (by kernel_rfl)
def u8(n:Int):Int:=IntKind.u8.wrap n
def dig(t:Int):List Int:=[u8 (((((((t.fdiv 256).fdiv 256).fdiv 256).fdiv 256).fdiv 256).fdiv 256).fdiv 256),u8 ((((((t.fdiv 256).fdiv 256).fdiv 256).fdiv 256).fdiv 256).fdiv 256),u8 (((((t.fdiv 256).fdiv 256).fdiv 256).fdiv 256).fdiv 256),u8 ((((t.fdiv 256).fdiv 256).fdiv 256).fdiv 256),u8 (((t.fdiv 256).fdiv 256).fdiv 256),u8 ((t.fdiv 256).fdiv 256),u8 (t.fdiv 256),u8 t]
theorem dig_length(t:Int):(dig t).length=8:=rfl
theorem digits_ok(n:Nat)(t:Int)(h0:0<=t)(h1:t<=1000000):Zd prog C0 (Z3 prog C0 (n+20)) (n+20) 67 [.int .i64 t] ⟨0,[]⟩=some (.agg (bys (dig t)),⟨0,[]⟩):=by
 exact drn (fun h=>h) (.s (.a) (.s (.a) (.s (.s (.a) (.k (.l (.i (.s (.a) (.s (.k (.s (.r []) (.r []))) (.r []))) (.i (.s (.s (.r []) (.a)) (.s (.k (.s (.r []) (.r []))) (.r []))) (.i (.s (.s (.r []) (.a)) (.s (.k (.s (.r []) (.r []))) (.r []))) (.i (.s (.s (.r []) (.a)) (.s (.k (.s (.r []) (.r []))) (.r []))) (.i (.s (.s (.r []) (.a)) (.s (.k (.s (.r []) (.r []))) (.r []))) (.i (.s (.s (.r []) (.a)) (.s (.k (.s (.r []) (.r []))) (.r []))) (.i (.s (.s (.r []) (.a)) (.s (.k (.s (.r []) (.r []))) (.r []))) (.i (.s (.s (.r []) (.a)) (.s (.k (.s (.r []) (.r []))) (.r []))) (.i (.s (.s (.r []) (.a)) .a) (.a))))))))))))) (.s (.r []) (.a))))) [] .q (by kernel_rfl)
theorem blocks_ok(n:Nat)(a:Int)(h0:0<=a)(h1:a<=1000000):Zd prog C0 (Z3 prog C0 (n+20)) (n+20) 32 [.int .i64 a] ⟨0,[]⟩=some (.int .i64 (if (a+45).tdiv 46<1 then 1 else (a+45).tdiv 46),⟨0,[]⟩):=by
 have e:a+46-1=a+45:=by omega
 have hb:0<=(a+45).tdiv 46:=Int.tdiv_nonneg (by omega) (by omega)
 have hb2:(a+45).tdiv 46<=a+45:=Int.tdiv_le_self _ (by omega)
 have f1:LV.int i64 (IntKind.wrap i64 (a+46))=LV.int i64 (a+46):=by simp (disch:=omega)
 have f2:LV.int i64 (IntKind.wrap i64 (a+46-1))=LV.int i64 (a+45):=by (simp (disch:=first | omega | (simp;omega));omega)
 have f3:LV.int i64 (IntKind.wrap i64 (Int.tdiv (a+45) 46))=LV.int i64 (Int.tdiv (a+45) 46):=by simp (disch:=omega)
 have f4:LV.int i64 (if true=true then if Int.tdiv (a+45) 46<1 then 1 else Int.tdiv (a+45) 46 else if 1<Int.tdiv (a+45) 46 then 1 else Int.tdiv (a+45) 46)=LV.int i64 (if Int.tdiv (a+45) 46<1 then 1 else Int.tdiv (a+45) 46):=by simp
 exact drn (fun h=>ai (f1)<|ai (f2)<|ai (f3)<|ai (f4)<|h) (.s (.a) (.s (.r [.a,.v (vOf f1) (.a),.v (vOf f2) (.a),.v (vOf f3) (.a),.v (vOf f4) (.a)]) (.a))) [] .a (by kernel_rfl)
def X1(t h:Int)(b:List Int):List Int:=Z6 (Z6 (((Z6 (List.replicate 64 0) 0 (dig t)).set 8 (u8 (h.fdiv 256))).set 9 (u8 h)) 10 b) 56 (dig t)
theorem spl_len(l:List Int)(o:Nat)(cs:List Int)(h:o+cs.length<=l.length):(Z6 l o cs).length=l.length:=by
 rw [spliceI_length];omega
theorem bys_set'(l:List Int)(i:Nat)(x:Int):(bys l).set i (.int .u8 x)=bys (l.set i x):=by simp [bys]
abbrev digL(t:Int):List LV:=[.int .u8 (u8 (((((((t.fdiv 256).fdiv 256).fdiv 256).fdiv 256).fdiv 256).fdiv 256).fdiv 256)),.int .u8 (u8 ((((((t.fdiv 256).fdiv 256).fdiv 256).fdiv 256).fdiv 256).fdiv 256)),.int .u8 (u8 (((((t.fdiv 256).fdiv 256).fdiv 256).fdiv 256).fdiv 256)),.int .u8 (u8 ((((t.fdiv 256).fdiv 256).fdiv 256).fdiv 256)),.int .u8 (u8 (((t.fdiv 256).fdiv 256).fdiv 256)),.int .u8 (u8 ((t.fdiv 256).fdiv 256)),.int .u8 (u8 (t.fdiv 256)),.int .u8 (u8 t)]
theorem digL_eq(t:Int):digL t=bys (dig t):=rfl
theorem spl_lenL(l:List LV)(o:Nat)(cs:List LV):(Z7 l o cs).length=min o l.length+cs.length+(l.length-(o+cs.length)):=by
 simp [Z7];omega
theorem fill_eq(t h:Int)(b:List Int):Z7 (Z7 (((Z7 (bys (List.replicate 64 0)) 0 (digL t)).set 8 (LV.int .u8 (IntKind.u8.wrap (h.fdiv 256)))).set 9 (LV.int .u8 (IntKind.u8.wrap h))) 10 (bys b)) 56 (digL t)=bys (X1 t h b):=by
 rw [digL_eq,lsplice_bys,bys_set',bys_set',lsplice_bys,lsplice_bys];rfl
theorem Xv(t h:Int)(b:List Int)(hb:b.length<=46):(X1 t h b).length=64:=by
 unfold X1;rw [spl_len _ _ _ (by rw [spl_len _ _ _ (by simp [dig_length];omega)];simp [dig_length]),spl_len _ _ _ (by simp [dig_length];omega)]
 simp [dig_length]
theorem fill_ok(n:Nat)(t h:Int)(h0:0<=t)(h1:t<=1000000)(b:List Int)(hb:b.length<=46):Zd prog C0 (Z3 prog C0 (n+40)) (n+40) 57 [.int .i64 t,.int .i64 h,.isl 1 (bys b)] ⟨0,[]⟩=some (.isl 1 (bys (X1 t h b)),⟨0,[]⟩):=by
 have hL:=Xv t h b hb;have E:=fill_eq t h b;have hT:(bys (X1 t h b)).take 64=bys (X1 t h b):=List.take_of_length_le (by rw [bys_length,Xv t h b hb];omega)
 have f1:=digits_ok (n+19) t h0 h1;have f2:LObj.row 5 1 (Z7 (List.replicate 64 (LV.int IntKind.u8 0)) 0 (List.take 8 (List.take 8 (List.drop 0 [.int IntKind.u8 (u8 (Int.fdiv (Int.fdiv (Int.fdiv (Int.fdiv (Int.fdiv (Int.fdiv (Int.fdiv t 256) 256) 256) 256) 256) 256) 256)),.int IntKind.u8 (u8 (Int.fdiv (Int.fdiv (Int.fdiv (Int.fdiv (Int.fdiv (Int.fdiv t 256) 256) 256) 256) 256) 256)),.int IntKind.u8 (u8 (Int.fdiv (Int.fdiv (Int.fdiv (Int.fdiv (Int.fdiv t 256) 256) 256) 256) 256)),.int IntKind.u8 (u8 (Int.fdiv (Int.fdiv (Int.fdiv (Int.fdiv t 256) 256) 256) 256)),.int IntKind.u8 (u8 (Int.fdiv (Int.fdiv (Int.fdiv t 256) 256) 256)),.int IntKind.u8 (u8 (Int.fdiv (Int.fdiv t 256) 256)),.int IntKind.u8 (u8 (Int.fdiv t 256)),.int IntKind.u8 (u8 t)]))))=LObj.row 5 1 (Z7 (bys (List.replicate 64 0)) 0 [.int IntKind.u8 (u8 (Int.fdiv (Int.fdiv (Int.fdiv (Int.fdiv (Int.fdiv (Int.fdiv (Int.fdiv t 256) 256) 256) 256) 256) 256) 256)),.int IntKind.u8 (u8 (Int.fdiv (Int.fdiv (Int.fdiv (Int.fdiv (Int.fdiv (Int.fdiv t 256) 256) 256) 256) 256) 256)),.int IntKind.u8 (u8 (Int.fdiv (Int.fdiv (Int.fdiv (Int.fdiv (Int.fdiv t 256) 256) 256) 256) 256)),.int IntKind.u8 (u8 (Int.fdiv (Int.fdiv (Int.fdiv (Int.fdiv t 256) 256) 256) 256)),.int IntKind.u8 (u8 (Int.fdiv (Int.fdiv (Int.fdiv t 256) 256) 256)),.int IntKind.u8 (u8 (Int.fdiv (Int.fdiv t 256) 256)),.int IntKind.u8 (u8 (Int.fdiv t 256)),.int IntKind.u8 (u8 t)]):=by simp
 have f3:Yx true 1 (Zi (bys b))=true:=by simp
 have f4:56<=64:=by omega
 have f5:LV.int i64 (↑(min (List.length (Zi (bys b))) 46):Int)=LV.int i64 (b.length:Int):=by simp (disch:=omega) [-List.reduceReplicate,spl_lenL,List.length_set]
 have f6:LObj.row 5 1 (Z7 (List.set (List.set (Z7 (bys (List.replicate 64 0)) 0 [.int IntKind.u8 (u8 (Int.fdiv (Int.fdiv (Int.fdiv (Int.fdiv (Int.fdiv (Int.fdiv (Int.fdiv t 256) 256) 256) 256) 256) 256) 256)),.int IntKind.u8 (u8 (Int.fdiv (Int.fdiv (Int.fdiv (Int.fdiv (Int.fdiv (Int.fdiv t 256) 256) 256) 256) 256) 256)),.int IntKind.u8 (u8 (Int.fdiv (Int.fdiv (Int.fdiv (Int.fdiv (Int.fdiv t 256) 256) 256) 256) 256)),.int IntKind.u8 (u8 (Int.fdiv (Int.fdiv (Int.fdiv (Int.fdiv t 256) 256) 256) 256)),.int IntKind.u8 (u8 (Int.fdiv (Int.fdiv (Int.fdiv t 256) 256) 256)),.int IntKind.u8 (u8 (Int.fdiv (Int.fdiv t 256) 256)),.int IntKind.u8 (u8 (Int.fdiv t 256)),.int IntKind.u8 (u8 t)]) 8 (LV.int IntKind.u8 (IntKind.wrap IntKind.u8 (Int.fdiv h 256)))) 9 (LV.int IntKind.u8 (IntKind.wrap IntKind.u8 h))) 10 (List.take (min (List.length (Zi (bys b))) 46) (Zi (bys b))))=LObj.row 5 1 (Z7 (List.set (List.set (Z7 (bys (List.replicate 64 0)) 0 [.int IntKind.u8 (u8 (Int.fdiv (Int.fdiv (Int.fdiv (Int.fdiv (Int.fdiv (Int.fdiv (Int.fdiv t 256) 256) 256) 256) 256) 256) 256)),.int IntKind.u8 (u8 (Int.fdiv (Int.fdiv (Int.fdiv (Int.fdiv (Int.fdiv (Int.fdiv t 256) 256) 256) 256) 256) 256)),.int IntKind.u8 (u8 (Int.fdiv (Int.fdiv (Int.fdiv (Int.fdiv (Int.fdiv t 256) 256) 256) 256) 256)),.int IntKind.u8 (u8 (Int.fdiv (Int.fdiv (Int.fdiv (Int.fdiv t 256) 256) 256) 256)),.int IntKind.u8 (u8 (Int.fdiv (Int.fdiv (Int.fdiv t 256) 256) 256)),.int IntKind.u8 (u8 (Int.fdiv (Int.fdiv t 256) 256)),.int IntKind.u8 (u8 (Int.fdiv t 256)),.int IntKind.u8 (u8 t)]) 8 (LV.int IntKind.u8 (IntKind.wrap IntKind.u8 (Int.fdiv h 256)))) 9 (LV.int IntKind.u8 (IntKind.wrap IntKind.u8 h))) 10 (bys b)):=by simp (disch:=omega) [-List.reduceReplicate,spl_lenL,List.length_set]
 have f7:64<=List.length (Z7 (List.set (List.set (Z7 (bys (List.replicate 64 0)) 0 [.int IntKind.u8 (u8 (Int.fdiv (Int.fdiv (Int.fdiv (Int.fdiv (Int.fdiv (Int.fdiv (Int.fdiv t 256) 256) 256) 256) 256) 256) 256)),.int IntKind.u8 (u8 (Int.fdiv (Int.fdiv (Int.fdiv (Int.fdiv (Int.fdiv (Int.fdiv t 256) 256) 256) 256) 256) 256)),.int IntKind.u8 (u8 (Int.fdiv (Int.fdiv (Int.fdiv (Int.fdiv (Int.fdiv t 256) 256) 256) 256) 256)),.int IntKind.u8 (u8 (Int.fdiv (Int.fdiv (Int.fdiv (Int.fdiv t 256) 256) 256) 256)),.int IntKind.u8 (u8 (Int.fdiv (Int.fdiv (Int.fdiv t 256) 256) 256)),.int IntKind.u8 (u8 (Int.fdiv (Int.fdiv t 256) 256)),.int IntKind.u8 (u8 (Int.fdiv t 256)),.int IntKind.u8 (u8 t)]) 8 (LV.int IntKind.u8 (IntKind.wrap IntKind.u8 (Int.fdiv h 256)))) 9 (LV.int IntKind.u8 (IntKind.wrap IntKind.u8 h))) 10 (bys b)):=by simp (disch:=omega) [-List.reduceReplicate,spl_lenL,List.length_set]
 have f8:true=true:=by with_reducible rfl
 have f9:(0:Int)<=(56:Int)/\(56:Int)<=(64:Int)/\(64:Int)<=(64:Int):=by omega
 have f10:LV.int i64 (↑(8:Nat):Int)=LV.int i64 (8:Int):=by simp
 have f11:LObj.row 5 1 (Z7 (Z7 (List.set (List.set (Z7 (bys (List.replicate 64 0)) 0 [.int IntKind.u8 (u8 (Int.fdiv (Int.fdiv (Int.fdiv (Int.fdiv (Int.fdiv (Int.fdiv (Int.fdiv t 256) 256) 256) 256) 256) 256) 256)),.int IntKind.u8 (u8 (Int.fdiv (Int.fdiv (Int.fdiv (Int.fdiv (Int.fdiv (Int.fdiv t 256) 256) 256) 256) 256) 256)),.int IntKind.u8 (u8 (Int.fdiv (Int.fdiv (Int.fdiv (Int.fdiv (Int.fdiv t 256) 256) 256) 256) 256)),.int IntKind.u8 (u8 (Int.fdiv (Int.fdiv (Int.fdiv (Int.fdiv t 256) 256) 256) 256)),.int IntKind.u8 (u8 (Int.fdiv (Int.fdiv (Int.fdiv t 256) 256) 256)),.int IntKind.u8 (u8 (Int.fdiv (Int.fdiv t 256) 256)),.int IntKind.u8 (u8 (Int.fdiv t 256)),.int IntKind.u8 (u8 t)]) 8 (LV.int IntKind.u8 (IntKind.wrap IntKind.u8 (Int.fdiv h 256)))) 9 (LV.int IntKind.u8 (IntKind.wrap IntKind.u8 h))) 10 (bys b)) 56 (List.take 8 (List.take 8 (List.drop 0 [.int IntKind.u8 (u8 (Int.fdiv (Int.fdiv (Int.fdiv (Int.fdiv (Int.fdiv (Int.fdiv (Int.fdiv t 256) 256) 256) 256) 256) 256) 256)),.int IntKind.u8 (u8 (Int.fdiv (Int.fdiv (Int.fdiv (Int.fdiv (Int.fdiv (Int.fdiv t 256) 256) 256) 256) 256) 256)),.int IntKind.u8 (u8 (Int.fdiv (Int.fdiv (Int.fdiv (Int.fdiv (Int.fdiv t 256) 256) 256) 256) 256)),.int IntKind.u8 (u8 (Int.fdiv (Int.fdiv (Int.fdiv (Int.fdiv t 256) 256) 256) 256)),.int IntKind.u8 (u8 (Int.fdiv (Int.fdiv (Int.fdiv t 256) 256) 256)),.int IntKind.u8 (u8 (Int.fdiv (Int.fdiv t 256) 256)),.int IntKind.u8 (u8 (Int.fdiv t 256)),.int IntKind.u8 (u8 t)]))))=LObj.row 5 1 (bys (X1 t h b)):=by simp [-List.reduceReplicate,spl_lenL,List.length_set];omega
 have f12:(if 0=0 then if 1=1/\0+64<=List.length (bys (X1 t h b))/\W0 64 none=true then LV.isl 1 (List.take 64 (List.drop 0 (bys (X1 t h b)))) else LV.any else LV.sl 1 0 0 64 none)=LV.isl 1 (bys (X1 t h b)):=by simp (disch:=first | omega | (simp;omega)) [-List.reduceReplicate,spl_lenL,List.length_set,if_pos,if_neg]
 exact drn (fun h=>ai (f1)<|ai (congrArg some f2)<|ai (f3)<|ai (f4)<|ai (f5)<|ai (congrArg some f6)<|ai (f7)<|ai (f8)<|ai (f9)<|ai (f7)<|ai (f10)<|ai (congrArg some f11)<|ai (f12)<|h) (.s (.a) (.s (.a) (.s (.r [.a,.f (rOf f1)]) (.s (.a) (.s (.r [.a,.a,.a,.a,.a,.z [.x 0 (vOf f2)] (.a)]) (.s (.r [.a,.a,.a,.x 0 (vOf f6) (.v (vOf f5) (.q))]) (.s (.d [] [.a,.q,.a] [] [.x 0 (vOf f11) (.v (vOf f10) (.q))]) (.s (.r []) (.a))))))))) [.y 0 (vOf f12)] .a (by kernel_rfl)
def Wt(n c:Int):Int:=bits BinOp.or IntKind.u64 (IntKind.u64.wrap (n*256)) (IntKind.u64.wrap c)
def num8(b:List Int):Int:=Wt (Wt (Wt (Wt (Wt (Wt (Wt (bits BinOp.or IntKind.u64 0 (IntKind.u64.wrap (atI b 0))) (atI b 1)) (atI b 2)) (atI b 3)) (atI b 4)) (atI b 5)) (atI b 6)) (atI b 7)
def enc(t:Int)(v:List Int):List Int:=
 Z6 (((((((((((((((((( List.replicate 64 0).set 7 t).set 63 t).set 6 0).set 62 0).set 5 0).set 61 0).set 4 0).set 60 0).set 3 0).set 59 0).set 2 0).set 58 0).set 1 0).set 57 0).set 0 0).set 56 0).set 8 (v.length:Int)) 9 v
theorem or_byte{n c:Int}(h0:0<=n)(h1:n<72057594037927936)(c0:0<=c)(c1:c<256):Wt n c=n*256+c:=by
 obtain ⟨a,rfl⟩:=Int.eq_ofNat_of_zero_le h0;obtain ⟨d,rfl⟩:=Int.eq_ofNat_of_zero_le c0;have e1:IntKind.u64.wrap ((a:Int)*256)=((a*256:Nat):Int):=by
  unfold IntKind.wrap;simp [IntKind.bits,IntKind.signed];omega
 have e2:IntKind.u64.wrap (d:Int)=(d:Int):=by
  unfold IntKind.wrap;simp [IntKind.bits,IntKind.signed];omega
 unfold Wt bits;rw [e1,e2];simp only [BitVec.ofInt_natCast];have h3:(BitVec.ofNat 64 (a*256) ||| BitVec.ofNat 64 d).toNat=a*256+d:=by
  rw [BitVec.toNat_or,BitVec.toNat_ofNat,BitVec.toNat_ofNat,Nat.mod_eq_of_lt (by omega),Nat.mod_eq_of_lt (by omega)]
  have:=Nat.shiftLeft_add_eq_or_of_lt (a:=a) (b:=d) (i:=8) (by omega)
  rw [Nat.shiftLeft_eq] at this;exact this.symm
 change IntKind.u64.wrap (((BitVec.ofNat 64 (a*256) ||| BitVec.ofNat 64 d).toNat:Nat):Int)=_
 rw [h3];unfold IntKind.wrap;simp [IntKind.bits,IntKind.signed];omega
def numF(b:List Int):Int:=((((((atI b 0*256+atI b 1)*256+atI b 2)*256+atI b 3)*256+atI b 4)*256+atI b 5)*256+atI b 6)*256+atI b 7
def byB(b:List Int):Prop:=∀ x∈b,0<=x/\x<256
theorem W7{b:List Int}(h:byB b)(i:Nat):0<=atI b i/\atI b i<256:=by
 unfold atI;rw [List.getD_eq_getElem?_getD]
 cases hx:b[i]? with
 | none=>simp
 | some x=>exact h x (List.mem_of_getElem? hx)
def numS(b:List Int):Int:=Wt (Wt (Wt (Wt (Wt (Wt (Wt (Wt 0 (atI b 0)) (atI b 1)) (atI b 2)) (atI b 3)) (atI b 4)) (atI b 5)) (atI b 6)) (atI b 7)
theorem numS_F{b:List Int}(h:byB b):numS b=numF b:=by
 have h0:=W7 h 0;have h1:=W7 h 1;have h2:=W7 h 2;have h3:=W7 h 3;have h4:=W7 h 4;have h5:=W7 h 5;have h6:=W7 h 6;have h7:=W7 h 7;unfold numS numF;have e0:Wt 0 (atI b 0)=atI b 0:=by rw [or_byte (by omega) (by omega) h0.1 h0.2];omega
 rw [e0,or_byte h0.1 (by omega) h1.1 h1.2,or_byte (by omega) (by omega) h2.1 h2.2,or_byte (by omega) (by omega) h3.1 h3.2,or_byte (by omega) (by omega) h4.1 h4.2,or_byte (by omega) (by omega) h5.1 h5.2,or_byte (by omega) (by omega) h6.1 h6.2,or_byte (by omega) (by omega) h7.1 h7.2]
theorem numF_lt{b:List Int}(h:byB b):0<=numF b/\numF b<18446744073709551616:=by
 have h0:=W7 h 0;have h1:=W7 h 1;have h2:=W7 h 2;have h3:=W7 h 3;have h4:=W7 h 4;have h5:=W7 h 5;have h6:=W7 h 6;have h7:=W7 h 7;unfold numF;omega
def Xt(b:List Int):Int:=if 1152921504606846976<numF b then 0 else numF b
theorem numB_le{b:List Int}(h:byB b):0<=Xt b/\Xt b<=1152921504606846976:=by
 have:=numF_lt h;unfold Xt
 split <;> omega
theorem byB.drop{b:List Int}(h:byB b)(n:Nat):byB (b.drop n):=fun x hx=>h x (List.mem_of_mem_drop hx)
theorem byB.take{b:List Int}(h:byB b)(n:Nat):byB (b.take n):=fun x hx=>h x (List.mem_of_mem_take hx)
theorem byB.app{a b:List Int}(h:byB a)(k:byB b):byB (a++b):=fun x hx=>(List.mem_append.1 hx).elim (h x) (k x)
theorem byB.rep(n:Nat):byB (List.replicate n 0):=fun x hx=>by rw [(List.mem_replicate.1 hx).2];omega
theorem flat_bys:∀ l:List Int,List.flatMap Z4 (bys l)=bys l
 | []=>rfl
 | x::l=>by show Z4 (.int .u8 x)++List.flatMap Z4 (bys l)=_;rw [flat_bys l];rfl
theorem spl8(x0 x1 x2 x3 x4 x5 x6 x7:LV)(a0 a1 a2 a3 a4 a5 a6 a7:Int):Z7 [x0,x1,x2,x3,x4,x5,x6,x7] 0 (bys [a0,a1,a2,a3,a4,a5,a6,a7])=[.int .u8 a0,.int .u8 a1,.int .u8 a2,.int .u8 a3,.int .u8 a4,.int .u8 a5,.int .u8 a6,.int .u8 a7]:=rfl
theorem g1_le(n:Nat)(a0 a1 a2 a3 a4 a5 a6 a7:Int)(h:num8 [a0,a1,a2,a3,a4,a5,a6,a7]<=1152921504606846976):Zd prog C0 (Z3 prog C0 (n+20)) (n+20) 54 [.agg (bys [a0,a1,a2,a3,a4,a5,a6,a7])] ⟨0,[]⟩=some (.int .i64 (i64.wrap (num8 [a0,a1,a2,a3,a4,a5,a6,a7])),⟨0,[]⟩):=by
 have h':=h
 simp [num8,Wt,atI] at h';simp [num8,Wt,atI];have f1:LV.bool (decide (1152921504606846976<bits BinOp.or IntKind.u64 (IntKind.wrap IntKind.u64 (bits BinOp.or IntKind.u64 (IntKind.wrap IntKind.u64 (bits BinOp.or IntKind.u64 (IntKind.wrap IntKind.u64 (bits BinOp.or IntKind.u64 (IntKind.wrap IntKind.u64 (bits BinOp.or IntKind.u64 (IntKind.wrap IntKind.u64 (bits BinOp.or IntKind.u64 (IntKind.wrap IntKind.u64 (bits BinOp.or IntKind.u64 (IntKind.wrap IntKind.u64 (bits BinOp.or IntKind.u64 0 (IntKind.wrap IntKind.u64 a0)*256)) (IntKind.wrap IntKind.u64 a1)*256)) (IntKind.wrap IntKind.u64 a2)*256)) (IntKind.wrap IntKind.u64 a3)*256)) (IntKind.wrap IntKind.u64 a4)*256)) (IntKind.wrap IntKind.u64 a5)*256)) (IntKind.wrap IntKind.u64 a6)*256)) (IntKind.wrap IntKind.u64 a7)))=LV.bool false:=by simp;omega
 exact drn (fun h=>ai (f1)<|h) (.s (.a) (.s (.a) (.s (.s (.a) (.k (.l (.i (.s (.a) (.s (.a) (.s (.k (.s (.a) (.r []))) (.r [])))) (.i (.s (.r []) (.s (.a) (.s (.k (.s (.r []) (.r []))) (.r [])))) (.i (.s (.r []) (.s (.a) (.s (.k (.s (.r []) (.r []))) (.r [])))) (.i (.s (.r []) (.s (.a) (.s (.k (.s (.r []) (.r []))) (.r [])))) (.i (.s (.r []) (.s (.a) (.s (.k (.s (.r []) (.r []))) (.r [])))) (.i (.s (.r []) (.s (.a) (.s (.k (.s (.r []) (.r []))) (.r [])))) (.i (.s (.r []) (.s (.a) (.s (.k (.s (.r []) (.r []))) (.r [])))) (.i (.s (.r []) (.s (.a) (.s (.k (.s (.r []) (.r []))) (.r [])))) (.i (.s (.r []) (.a)) (.a))))))))))))) (.s (.s (.r [.a,.v (vOf f1) (.a)]) (.a)) (.s (.r []) (.a)))))) [] .a (by kernel_rfl)
theorem g1_gt(n:Nat)(a0 a1 a2 a3 a4 a5 a6 a7:Int)(h:1152921504606846976<num8 [a0,a1,a2,a3,a4,a5,a6,a7]):Zd prog C0 (Z3 prog C0 (n+20)) (n+20) 54 [.agg (bys [a0,a1,a2,a3,a4,a5,a6,a7])] ⟨0,[]⟩=some (.int .i64 0,⟨0,[]⟩):=by
 have h':=h
 simp [num8,Wt,atI] at h';have f1:LV.bool (decide (1152921504606846976<bits BinOp.or IntKind.u64 (IntKind.wrap IntKind.u64 (bits BinOp.or IntKind.u64 (IntKind.wrap IntKind.u64 (bits BinOp.or IntKind.u64 (IntKind.wrap IntKind.u64 (bits BinOp.or IntKind.u64 (IntKind.wrap IntKind.u64 (bits BinOp.or IntKind.u64 (IntKind.wrap IntKind.u64 (bits BinOp.or IntKind.u64 (IntKind.wrap IntKind.u64 (bits BinOp.or IntKind.u64 (IntKind.wrap IntKind.u64 (bits BinOp.or IntKind.u64 0 (IntKind.wrap IntKind.u64 a0)*256)) (IntKind.wrap IntKind.u64 a1)*256)) (IntKind.wrap IntKind.u64 a2)*256)) (IntKind.wrap IntKind.u64 a3)*256)) (IntKind.wrap IntKind.u64 a4)*256)) (IntKind.wrap IntKind.u64 a5)*256)) (IntKind.wrap IntKind.u64 a6)*256)) (IntKind.wrap IntKind.u64 a7)))=LV.bool true:=by simp;omega
 exact drn (fun h=>ai (f1)<|h) (.s (.a) (.s (.a) (.s (.s (.a) (.k (.l (.i (.s (.a) (.s (.a) (.s (.k (.s (.a) (.r []))) (.r [])))) (.i (.s (.r []) (.s (.a) (.s (.k (.s (.r []) (.r []))) (.r [])))) (.i (.s (.r []) (.s (.a) (.s (.k (.s (.r []) (.r []))) (.r [])))) (.i (.s (.r []) (.s (.a) (.s (.k (.s (.r []) (.r []))) (.r [])))) (.i (.s (.r []) (.s (.a) (.s (.k (.s (.r []) (.r []))) (.r [])))) (.i (.s (.r []) (.s (.a) (.s (.k (.s (.r []) (.r []))) (.r [])))) (.i (.s (.r []) (.s (.a) (.s (.k (.s (.r []) (.r []))) (.r [])))) (.i (.s (.r []) (.s (.a) (.s (.k (.s (.r []) (.r []))) (.r [])))) (.i (.s (.r []) (.a)) (.a))))))))))))) (.s (.s (.r [.a,.v (vOf f1) (.a)]) (.c (.s (.r []) (.a)))) .a)))) [] .a (by kernel_rfl)
theorem g2_eight(n:Nat)(a0 a1 a2 a3 a4 a5 a6 a7:Int)(r:List Int):Zd prog C0 (Z3 prog C0 (n+20)) (n+20) 55 [.isl 1 (bys (a0::a1::a2::a3::a4::a5::a6::a7::r))] ⟨0,[]⟩=some (.agg (bys [a0,a1,a2,a3,a4,a5,a6,a7]),⟨0,[]⟩):=by
 have f1:Yx true 1 (Zi (bys (a0::a1::a2::a3::a4::a5::a6::a7::r)))=true:=by simp
 have f2:0+min (List.length (Zi (bys (a0::a1::a2::a3::a4::a5::a6::a7::r)))) 8<=8:=by omega
 have f3:LV.int i64 (↑(min (List.length (Zi (bys (a0::a1::a2::a3::a4::a5::a6::a7::r)))) 8):Int)=LV.int i64 8:=by simp
 have f4:LObj.box 110 (Z7 [.int IntKind.u8 0,.int IntKind.u8 0,.int IntKind.u8 0,.int IntKind.u8 0,.int IntKind.u8 0,.int IntKind.u8 0,.int IntKind.u8 0,.int IntKind.u8 0] 0 (Zi (List.flatMap Z4 (List.take (min (List.length (Zi (bys (a0::a1::a2::a3::a4::a5::a6::a7::r)))) 8) (Zi (bys (a0::a1::a2::a3::a4::a5::a6::a7::r)))))))=LObj.box 110 [.int IntKind.u8 a0,.int IntKind.u8 a1,.int IntKind.u8 a2,.int IntKind.u8 a3,.int IntKind.u8 a4,.int IntKind.u8 a5,.int IntKind.u8 a6,.int IntKind.u8 a7]:=by simp (disch:=omega) [-List.reduceReplicate,flat_bys,spl8]
 exact drn (fun h=>ai (f1)<|ai (f2)<|ai (f3)<|ai (congrArg some f4)<|h) (.s (.a) (.s (.a) (.s (.r [.a,.a,.x 1 (vOf f4) (.v (vOf f3) (.q))]) (.a)))) [] .a (by kernel_rfl)
theorem g3_ne(n:Nat)(a0 a1 a2 a3 a4 a5 a6 a7 h1 h2 z0 z1 z2 z3 z4 z5 z6 z7:Int)(r:List Int)(hr:r.length=46)(hne:([a0,a1,a2,a3,a4,a5,a6,a7]==[z0,z1,z2,z3,z4,z5,z6,z7])=false):
 Zd prog C0 (Z3 prog C0 (n+50)) (n+50) 66 [.isl 1 (bys (a0::a1::a2::a3::a4::a5::a6::a7::h1::h2::(r++[z0,z1,z2,z3,z4,z5,z6,z7])))] ⟨0,[]⟩=some (.tup [.int .i64 0,.bool false,.int .i64 0,.isl 1 []],⟨0,[]⟩):=by
 have f1:=g2_eight (n+29) a0 a1 a2 a3 a4 a5 a6 a7 (h1::h2::(r++[z0,z1,z2,z3,z4,z5,z6,z7]));have f2:(0:Int)<=(56:Int)/\(56:Int)<=Option.getD none (↑(List.length (bys (a0::a1::a2::a3::a4::a5::a6::a7::h1::h2::(r++[z0,z1,z2,z3,z4,z5,z6,z7])))):Int)/\Option.getD none (↑(List.length (bys (a0::a1::a2::a3::a4::a5::a6::a7::h1::h2::(r++[z0,z1,z2,z3,z4,z5,z6,z7])))):Int)<=(↑(List.length (bys (a0::a1::a2::a3::a4::a5::a6::a7::h1::h2::(r++[z0,z1,z2,z3,z4,z5,z6,z7])))):Int):=by simp;omega
 have f3:LV.isl 1 (List.drop 56 (List.take (Int.toNat (Option.getD none (↑(List.length (bys (a0::a1::a2::a3::a4::a5::a6::a7::h1::h2::(r++[z0,z1,z2,z3,z4,z5,z6,z7])))):Int))) (bys (a0::a1::a2::a3::a4::a5::a6::a7::h1::h2::(r++[z0,z1,z2,z3,z4,z5,z6,z7])))))=LV.isl 1 (bys [z0,z1,z2,z3,z4,z5,z6,z7]):=by simp (disch:=first | omega | (simp;omega))
 have f4:=g2_eight (n+29) z0 z1 z2 z3 z4 z5 z6 z7 [];have f5:(![a0,a1,a2,a3,a4,a5,a6,a7]==[z0,z1,z2,z3,z4,z5,z6,z7])=true:=by simp (disch:=omega) [-List.reduceReplicate,hr,hne]
 exact drn (fun h=>ai (f1)<|ai (f2)<|ai (f3)<|ai (f4)<|ai (congrArg LV.bool f5)<|h) (.s (.a) (.s (.d [] [.a,.f (rOf f1),.a,.v (vOf f3) (.q),.f (rOf f4),.a,.a] [] []) (.s (.s (.a) (.b true (.a))) .a))) [] .a (by kernel_rfl)
abbrev hdW(h1 h2:Int):Int:=bits BinOp.or i64 (i64.wrap (i64.wrap h1*256)) (i64.wrap h2)
theorem g3_eq(n:Nat)(a0 a1 a2 a3 a4 a5 a6 a7 h1 h2 t:Int)(r:List Int)(hr:r.length=46)(N:∀ k,Zd prog C0 (Z3 prog C0 (k+20)) (k+20) 54 [.agg (bys [a0,a1,a2,a3,a4,a5,a6,a7])] ⟨0,[]⟩=some (.int .i64 t,⟨0,[]⟩)):
 Zd prog C0 (Z3 prog C0 (n+50)) (n+50) 66 [.isl 1 (bys (a0::a1::a2::a3::a4::a5::a6::a7::h1::h2::(r++[a0,a1,a2,a3,a4,a5,a6,a7])))] ⟨0,[]⟩=some (.tup [.int .i64 t,.bool (!decide (bits .and .i64 (hdW h1 h2) 32768=0)),.int .i64 (bits .andNot .i64 (hdW h1 h2) 32768),.isl 1 (bys r)],⟨0,[]⟩):=by
 have f1:=g2_eight (n+29) a0 a1 a2 a3 a4 a5 a6 a7 (h1::h2::(r++[a0,a1,a2,a3,a4,a5,a6,a7]));have f2:(0:Int)<=(56:Int)/\(56:Int)<=Option.getD none (↑(List.length (bys (a0::a1::a2::a3::a4::a5::a6::a7::h1::h2::(r++[a0,a1,a2,a3,a4,a5,a6,a7])))):Int)/\Option.getD none (↑(List.length (bys (a0::a1::a2::a3::a4::a5::a6::a7::h1::h2::(r++[a0,a1,a2,a3,a4,a5,a6,a7])))):Int)<=(↑(List.length (bys (a0::a1::a2::a3::a4::a5::a6::a7::h1::h2::(r++[a0,a1,a2,a3,a4,a5,a6,a7])))):Int):=by simp;omega
 have f3:LV.isl 1 (List.drop 56 (List.take (Int.toNat (Option.getD none (↑(List.length (bys (a0::a1::a2::a3::a4::a5::a6::a7::h1::h2::(r++[a0,a1,a2,a3,a4,a5,a6,a7])))):Int))) (bys (a0::a1::a2::a3::a4::a5::a6::a7::h1::h2::(r++[a0,a1,a2,a3,a4,a5,a6,a7])))))=LV.isl 1 (bys [a0,a1,a2,a3,a4,a5,a6,a7]):=by simp (disch:=first | omega | (simp;omega))
 have f4:=g2_eight (n+29) a0 a1 a2 a3 a4 a5 a6 a7 [];have f5:(![a0,a1,a2,a3,a4,a5,a6,a7]==[a0,a1,a2,a3,a4,a5,a6,a7])=false:=by simp
 have f6:(bys (a0::a1::a2::a3::a4::a5::a6::a7::h1::h2::(r++[a0,a1,a2,a3,a4,a5,a6,a7])))[8]? = some (LV.int IntKind.u8 (atI (a0::a1::a2::a3::a4::a5::a6::a7::h1::h2::(r++[a0,a1,a2,a3,a4,a5,a6,a7])) 8)):=by simp
 have f7:(0:Int)<=(8:Int)/\(8:Int)<(↑(List.length (bys (a0::a1::a2::a3::a4::a5::a6::a7::h1::h2::(r++[a0,a1,a2,a3,a4,a5,a6,a7])))):Int):=by simp;omega
 have f8:(bys (a0::a1::a2::a3::a4::a5::a6::a7::h1::h2::(r++[a0,a1,a2,a3,a4,a5,a6,a7])))[9]? = some (LV.int IntKind.u8 (atI (a0::a1::a2::a3::a4::a5::a6::a7::h1::h2::(r++[a0,a1,a2,a3,a4,a5,a6,a7])) 9)):=by simp
 have f9:(0:Int)<=(9:Int)/\(9:Int)<(↑(List.length (bys (a0::a1::a2::a3::a4::a5::a6::a7::h1::h2::(r++[a0,a1,a2,a3,a4,a5,a6,a7])))):Int):=by simp;omega
 have f10:(LV.bool ![a0,a1,a2,a3,a4,a5,a6,a7]==[a0,a1,a2,a3,a4,a5,a6,a7])=LV.bool false:=by simp
 have f11:=N (n+29);have f12:(0:Int)<=(10:Int)/\(10:Int)<=(56:Int)/\(56:Int)<=(56:Int)/\(56:Int)<=(↑(List.length (bys (a0::a1::a2::a3::a4::a5::a6::a7::h1::h2::(r++[a0,a1,a2,a3,a4,a5,a6,a7])))):Int):=by simp;omega
 have f13:LV.isl 1 (List.drop 10 (List.take 56 (bys (a0::a1::a2::a3::a4::a5::a6::a7::h1::h2::(r++[a0,a1,a2,a3,a4,a5,a6,a7])))))=LV.isl 1 (bys r):=by simp (disch:=omega)
 exact drn (fun h=>ai (f1)<|ai (f2)<|ai (f3)<|ai (f4)<|ai (congrArg LV.bool f5)<|ai (f7)<|ai (f6)<|ai (f9)<|ai (f8)<|ai (f10)<|ai (f11)<|ai (f12)<|ai (f13)<|h) (.s (.a) (.s (.d [] [.a,.f (rOf f1),.a,.v (vOf f3) (.q),.f (rOf f4),.a,.a] [] []) (.s (.s (.a) (.b false (.a))) (.s (.d [] [.a,.e (rOf f6),.a,.a,.a,.a,.e (rOf f8),.a,.a] [] [.z [.y 16 (vOf f10)] (.a)]) (.s (.d [] [.a,.f (rOf f11),.a,.a,.a,.a,.a,.a,.v (vOf f13) (.q),.a,.a,.a] [] []) (.a)))))) [] .a (by kernel_rfl)
structure CS where
 t:Int
 g:Bool
 lf:Int
 pt:List Int
def Y9(b:List Int):CS:=if b.take 8=b.drop 56 then ⟨Xt b,decide (128<=atI b 8),(atI b 8*256+atI b 9) % 32768,(b.drop 10).take 46⟩ else ⟨0,false,0,[]⟩
theorem split64{b:List Int}(h:b.length=64):∃ a0 a1 a2 a3 a4 a5 a6 a7 h1 h2 r z0 z1 z2 z3 z4 z5 z6 z7,b=a0::a1::a2::a3::a4::a5::a6::a7::h1::h2::(r++[z0,z1,z2,z3,z4,z5,z6,z7])/\r.length=46:=by
 match b,h with
 | a0::a1::a2::a3::a4::a5::a6::a7::h1::h2::q,h =>
  have hq:q.length=54:=by simpa using h
  have hd:(q.drop 46).length=8:=by simp [hq]
  match hz:q.drop 46,hd with
  | [z0,z1,z2,z3,z4,z5,z6,z7],_ =>
   exact ⟨a0,a1,a2,a3,a4,a5,a6,a7,h1,h2,q.take 46,z0,z1,z2,z3,z4,z5,z6,z7,by rw [<- hz,List.take_append_drop],by simp [hq]⟩
theorem hdW_eq{x y:Int}(x0:0<=x)(x1:x<256)(y0:0<=y)(y1:y<256):hdW x y=x*256+y:=by
 obtain ⟨a,rfl⟩:=Int.eq_ofNat_of_zero_le x0;obtain ⟨d,rfl⟩:=Int.eq_ofNat_of_zero_le y0;have e1:i64.wrap (i64.wrap (a:Int)*256)=((a*256:Nat):Int):=by
  unfold IntKind.wrap;simp [IntKind.bits,IntKind.signed];omega
 have e2:i64.wrap (d:Int)=(d:Int):=by
  unfold IntKind.wrap;simp [IntKind.bits,IntKind.signed];omega
 unfold hdW bits;rw [e1,e2];simp only [BitVec.ofInt_natCast];have h3:(BitVec.ofNat 64 (a*256) ||| BitVec.ofNat 64 d).toNat=a*256+d:=by
  rw [BitVec.toNat_or,BitVec.toNat_ofNat,BitVec.toNat_ofNat,Nat.mod_eq_of_lt (by omega),Nat.mod_eq_of_lt (by omega)]
  have:=Nat.shiftLeft_add_eq_or_of_lt (a:=a) (b:=d) (i:=8) (by omega)
  rw [Nat.shiftLeft_eq] at this;exact this.symm
 change i64.wrap (((BitVec.ofNat 64 (a*256) ||| BitVec.ofNat 64 d).toNat:Nat):Int)=_
 rw [h3];unfold IntKind.wrap;simp [IntKind.bits,IntKind.signed];omega
theorem and15(n:Nat)(h:n<65536):bits .and .i64 (n:Int) 32768=if 32768<=n then 32768 else 0:=by
 have:∀ k<65536,(BitVec.ofNat 64 k &&& 32768#64).toNat=if 32768<=k then 32768 else 0:=by
  intro k hk;rw [BitVec.toNat_and,BitVec.toNat_ofNat,Nat.mod_eq_of_lt (by omega)]
  show k &&& 2 ^ 15=_
  have ht:k.testBit 15=decide (32768<=k):=by
   rw [Nat.testBit_eq_decide_div_mod_eq]
   congr 1
   apply propext;omega
  apply Nat.eq_of_testBit_eq;intro i;rw [Nat.testBit_and,Nat.testBit_two_pow]
  by_cases hi:15=i
  ·subst hi
   rw [ht]
   by_cases h:32768<=k
   ·rw [if_pos h];simp [h];decide
   ·rw [if_neg h];simp [h]
  ·by_cases h:32768<=k
   ·rw [if_pos h,show (32768:Nat)=2 ^ 15 from rfl,Nat.testBit_two_pow];simp [hi]
   ·rw [if_neg h];simp [hi]
 unfold bits;simp only [BitVec.ofInt_natCast];have e:BitVec.ofInt 64 32768=32768#64:=rfl
 change i64.wrap (((BitVec.ofNat 64 n &&& BitVec.ofInt 64 32768).toNat:Nat):Int)=_
 rw [e,this n h]
 split <;> rfl
theorem andn15(n:Nat)(h:n<65536):bits .andNot .i64 (n:Int) 32768=((n % 32768:Nat):Int):=by
 unfold bits;simp only [BitVec.ofInt_natCast];have e : ~~~ BitVec.ofInt 64 32768=BitVec.ofNat 64 (2^64-1-32768):=rfl
 change i64.wrap (((BitVec.ofNat 64 n &&& ~~~ BitVec.ofInt 64 32768).toNat:Nat):Int)=_
 rw [e];have:(BitVec.ofNat 64 n &&& BitVec.ofNat 64 (2^64-1-32768)).toNat=n % 32768:=by
  rw [BitVec.toNat_and,BitVec.toNat_ofNat,BitVec.toNat_ofNat,Nat.mod_eq_of_lt (by omega),Nat.mod_eq_of_lt (by omega)]
  have h2:n=n % 65536:=by omega
  conv=>lhs;rw [h2]
  rw [show (65536:Nat)=2 ^ 16 from rfl,<- Nat.and_two_pow_sub_one_eq_mod,Nat.and_assoc]
  rw [show (2 ^ 16-1:Nat) &&& (2 ^ 64-1-32768)=2 ^ 15-1 from rfl,Nat.and_two_pow_sub_one_eq_mod]
 rw [this];unfold IntKind.wrap;simp [IntKind.bits,IntKind.signed];omega
theorem cnum_any(n:Nat){b:List Int}(hb:b.length=8)(hB:byB b):Zd prog C0 (Z3 prog C0 (n+20)) (n+20) 54 [.agg (bys b)] ⟨0,[]⟩=some (.int .i64 (Xt b),⟨0,[]⟩):=by
 match b,hb with
 | [a0,a1,a2,a3,a4,a5,a6,a7],_ =>
  have e:num8 [a0,a1,a2,a3,a4,a5,a6,a7]=numF [a0,a1,a2,a3,a4,a5,a6,a7]:=by
   rw [<- numS_F hB]
   rfl
  have hl:=numF_lt hB;unfold Xt
  by_cases h:1152921504606846976<numF [a0,a1,a2,a3,a4,a5,a6,a7]
  ·rw [if_pos h];exact g1_gt n _ _ _ _ _ _ _ _ (by rw [e];exact h)
  ·rw [if_neg h]
   have:=g1_le n a0 a1 a2 a3 a4 a5 a6 a7 (by rw [e];omega)
   rw [this,e];have:i64.wrap (numF [a0,a1,a2,a3,a4,a5,a6,a7])=numF [a0,a1,a2,a3,a4,a5,a6,a7]:=by
    unfold IntKind.wrap;simp [IntKind.bits,IntKind.signed];omega
   rw [this]
theorem numB_take(b:List Int):Xt (b.take 8)=Xt b:=by
 unfold Xt numF;simp [atI_take]
theorem cell_any(n:Nat){b:List Int}(hb:b.length=64)(hB:byB b):
  Zd prog C0 (Z3 prog C0 (n+50)) (n+50) 66 [.isl 1 (bys b)] ⟨0,[]⟩=some (.tup [.int .i64 (Y9 b).t,.bool (Y9 b).g,.int .i64 (Y9 b).lf,.isl 1 (bys (Y9 b).pt)],⟨0,[]⟩):=by
 obtain ⟨a0,a1,a2,a3,a4,a5,a6,a7,h1,h2,r,z0,z1,z2,z3,z4,z5,z6,z7,rfl,hr⟩:=split64 hb;have e1:(a0::a1::a2::a3::a4::a5::a6::a7::h1::h2::(r++[z0,z1,z2,z3,z4,z5,z6,z7])).take 8=[a0,a1,a2,a3,a4,a5,a6,a7]:=rfl;have e2:(a0::a1::a2::a3::a4::a5::a6::a7::h1::h2::(r++[z0,z1,z2,z3,z4,z5,z6,z7])).drop 56=[z0,z1,z2,z3,z4,z5,z6,z7]:=by
  show (r++[z0,z1,z2,z3,z4,z5,z6,z7]).drop 46=_
  rw [<- hr,List.drop_left]
 have e3:((a0::a1::a2::a3::a4::a5::a6::a7::h1::h2::(r++[z0,z1,z2,z3,z4,z5,z6,z7])).drop 10).take 46=r:=by
  show (r++[z0,z1,z2,z3,z4,z5,z6,z7]).take 46=_
  rw [<- hr,List.take_left]
 by_cases h:[a0,a1,a2,a3,a4,a5,a6,a7]=[z0,z1,z2,z3,z4,z5,z6,z7]
 ·unfold Y9
  rw [e1,e2,e3,if_pos h];simp only [List.cons.injEq,and_true] at h;obtain ⟨rfl,rfl,rfl,rfl,rfl,rfl,rfl,rfl⟩:=h
  have N:=fun k=>cnum_any k (b:=[a0,a1,a2,a3,a4,a5,a6,a7]) rfl (hB.take 8)
  rw [g3_eq n a0 a1 a2 a3 a4 a5 a6 a7 h1 h2 _ r hr N];have q1:=hB h1 (by simp)
  have q2:=hB h2 (by simp)
  rw [hdW_eq q1.1 q1.2 q2.1 q2.2];obtain ⟨x,rfl⟩:=Int.eq_ofNat_of_zero_le q1.1;obtain ⟨y,rfl⟩:=Int.eq_ofNat_of_zero_le q2.1;have e4:((x:Int)*256+(y:Int))=((x*256+y:Nat):Int):=by omega
  rw [e4,and15 _ (by omega),andn15 _ (by omega)]
  have e5:Xt [a0,a1,a2,a3,a4,a5,a6,a7]=Xt (a0::a1::a2::a3::a4::a5::a6::a7::(x:Int)::(y:Int)::(r++[a0,a1,a2,a3,a4,a5,a6,a7])):=by rw [<- numB_take (a0::a1::a2::a3::a4::a5::a6::a7::(x:Int)::(y:Int)::(r++[a0,a1,a2,a3,a4,a5,a6,a7])),e1]
  have e6:atI (a0::a1::a2::a3::a4::a5::a6::a7::(x:Int)::(y:Int)::(r++[a0,a1,a2,a3,a4,a5,a6,a7])) 8=x:=rfl;have e7:atI (a0::a1::a2::a3::a4::a5::a6::a7::(x:Int)::(y:Int)::(r++[a0,a1,a2,a3,a4,a5,a6,a7])) 9=y:=rfl;rw [e5,e6,e7,e4];have e8:(!decide ((if 32768<=x*256+y then (32768:Int) else 0)=0))=decide (128<=(x:Int)):=by
   by_cases hx:128<=x
   ·rw [if_pos (by omega)];simp;omega
   ·rw [if_neg (by omega)];simp;omega
  rw [e8]
  rfl
 ·unfold Y9
  rw [e1,e2,if_neg h];exact g3_ne n a0 a1 a2 a3 a4 a5 a6 a7 h1 h2 z0 z1 z2 z3 z4 z5 z6 z7 r hr (by simpa using h)
abbrev chO(base nx st:Int):LObj:=.box 106 [.ptr 1 0,.int .i64 base,.int .i64 nx,.int .i64 st]
abbrev ptE(b:List Int)(N nx head i:Int):LEnv:=[.ptr 0 0,.isl 1 (bys b),.any,.any,.any,.any,.int i64 N,.int i64 nx,.int i64 head,.any,.any,.any,.any,.any,.any,.any,.any,.any,.any,.any,.any,.any,.any,.any,.any,.any,.any,.any,.any,.any,.any,.any,.any,.any,.any,.any,.any,.any,.any,.any,.any,.any,.any,.any,.any,.any,.int i64 N,.int i64 i,.any,.any,.any,.any,.any,.any,.any,.any,.any,.any,.any,.any,.any,.any,.any,.any,.any,.any,.any,.any,.any,.any,.any,.any,.any,.any,.any,.any,.any,.any,.any,.any,.any,.any,.any,.any,.any,.any,.any,.any,.any,.any,.any,.any,.any,.any,.any,.any,.any,.any,.any,.any,.any]
abbrev ptO(b:List Int)(i:Int):Nat:=(if ↑b.length<i*46 then (↑b.length:Int) else i*46).toNat
abbrev ptL(b:List Int)(i:Int):Int:=↑(b.length-ptO b i)
abbrev ptP(b:List Int)(i:Int):List Int:=List.take (if 46<ptL b i then 46 else ptL b i).toNat (List.drop (ptO b i) b)
abbrev ptX(b:List Int)(N nx head i:Int):LEnv:=[.ptr 0 0,.any,.any,.any,.any,.any,.int i64 N,.int i64 nx,.any,.any,.any,.any,.any,.any,.any,.any,.any,.any,.any,.any,.any,.any,.any,.any,.any,.any,.any,.any,.any,.any,.any,.any,.any,.any,.any,.any,.any,.any,.any,.any,.any,.any,.any,.any,.any,.any,.any,.any,.any,.any,.any,.any,.any,.any,.any,.any,.any,.any,.any,.any,.any,.any,.any,.any,.any,.any,.any,.any,.any,.any,.any,.any,.any,.any,.any,.any,.any,.any,.any,.any,.any,.any,.any,.any,.any,.any,.any,.any,.any,.any,.any,.any,.any,.any,.any,.any,.any,.any,.any,.any,.any]
theorem zq7_12(a0:Int)(a1:ML)(a2:PL):LObj.box 77 [.int i64 a0,.omap i64 (List.map (·.1) (Zm a1)) (List.map (·.2) (Zm a1)),.own 88 2 (Zg a2)]=LObj.box 77 [.int i64 a0,.omap i64 (Zn a1) (Xl a1),.own 88 2 (Zg a2)]:=by simp
theorem put_step(n fu:Nat)(base nx st rm N head i:Int)(m:ML)(p p':PL)(b X:List Int)(hb:b.length<=3000)(hN:1<=N)(hN2:N<=100)(hnx:0<=nx)(hnx2:nx<=1000000)(hi:0<=i)(hi2:i<N)(hh0:0<=head)(hh1:head<=32768)(hs:0<=st)(hs2:st<=100000)(F:∀ k,Zd prog C0 (Z3 prog C0 (k+40)) (k+40) 57 [.int .i64 st,.int .i64 (bits .or .i64 head (ptL b i)),.isl 1 (bys (ptP b i))] ⟨0,[]⟩=some (.isl 1 (bys X),⟨0,[]⟩))(W:∀ k,Zd prog C0 (Z3 prog C0 (k+20)) (k+20) 20 [.ptr 0 0,.int .i64 (nx+i),.isl 1 (bys X)] ⟨1,[(0,dO rm m p)]⟩=some (.nili,⟨1,[(0,dO rm m p')]⟩))(r:LX × LEnv × St)(hr:Z2 prog C0 (n+60) 56 0 2 fu (ptE b N nx 0 (i+1)) ⟨2,[(0,chO base nx (st+1)),(1,dO rm m p')]⟩=some r):
  Z2 prog C0 (n+60) 56 0 2 (fu+1) (ptE b N nx head i) ⟨2,[(0,chO base nx st),(1,dO rm m p)]⟩=some r:=by
 have f1:decide (i<N)=true:=by simp;omega
 have f2:LV.int i64 (IntKind.wrap i64 (i*46))=LV.int i64 (i*46):=by simp (disch:=omega)
 have f3:LV.int i64 (if false=true then if i*46<((bys b).length:Int) then ((bys b).length:Int) else i*46 else if ((bys b).length:Int)<i*46 then ((bys b).length:Int) else i*46)=LV.int i64 (if (b.length:Int)<i*46 then (b.length:Int) else i*46):=by simp
 have f4:LV.bool (decide (i<N))=LV.bool true:=by simp;omega
 have f5:=zq7_0 b;have f6:0<=Option.getD (some (if (b.length:Int)<i*46 then (b.length:Int) else i*46)) 0/\Option.getD (some (if (b.length:Int)<i*46 then (b.length:Int) else i*46)) 0<=Option.getD none ((bys b).length:Int)/\Option.getD none ((bys b).length:Int)<=((bys b).length:Int):=by simp;omega
 have f7:LV.isl 1 (List.drop (Int.toNat (Option.getD (some (if (b.length:Int)<i*46 then (b.length:Int) else i*46)) 0)) (List.take (Int.toNat (Option.getD none ((bys b).length:Int))) (bys b)))=LV.isl 1 (bys (List.drop (Int.toNat (if (b.length:Int)<i*46 then (b.length:Int) else i*46)) b)):=by simp
 have f8:=zq7_1 m;have f9:=zq7_2 rm p 2 3;have f10:LV.int i64 (IntKind.wrap i64 (nx+i))=LV.int i64 (nx+i):=by simp (disch:=omega)
 have f11:LV.int i64 (↑(List.length (bys (List.drop (Int.toNat (if (b.length:Int)<i*46 then (b.length:Int) else i*46)) b))):Int)=LV.int i64 (↑(List.length b-Int.toNat (if (b.length:Int)<i*46 then (b.length:Int) else i*46)):Int):=by simp
 have f12:LV.int i64 (if false=true then if (↑(List.length b-Int.toNat (if (b.length:Int)<i*46 then (b.length:Int) else i*46)):Int)<46 then 46 else (↑(List.length b-Int.toNat (if (b.length:Int)<i*46 then (b.length:Int) else i*46)):Int) else if 46<(↑(List.length b-Int.toNat (if (b.length:Int)<i*46 then (b.length:Int) else i*46)):Int) then 46 else (↑(List.length b-Int.toNat (if (b.length:Int)<i*46 then (b.length:Int) else i*46)):Int))=LV.int i64 (if 46<(↑(List.length b-Int.toNat (if (b.length:Int)<i*46 then (b.length:Int) else i*46)):Int) then 46 else (↑(List.length b-Int.toNat (if (b.length:Int)<i*46 then (b.length:Int) else i*46)):Int)):=by simp
 have f13:(0:Int)<=(0:Int)/\(0:Int)<=Option.getD (some (if (46:Int)<(↑(List.length b-Int.toNat (if (b.length:Int)<i*(46:Int) then (b.length:Int) else i*(46:Int))):Int) then (46:Int) else (↑(List.length b-Int.toNat (if (b.length:Int)<i*(46:Int) then (b.length:Int) else i*(46:Int))):Int))) (↑(List.length (bys (List.drop (Int.toNat (if (b.length:Int)<i*(46:Int) then (b.length:Int) else i*(46:Int))) b))):Int)/\Option.getD (some (if (46:Int)<(↑(List.length b-Int.toNat (if (b.length:Int)<i*(46:Int) then (b.length:Int) else i*(46:Int))):Int) then (46:Int) else (↑(List.length b-Int.toNat (if (b.length:Int)<i*(46:Int) then (b.length:Int) else i*(46:Int))):Int))) (↑(List.length (bys (List.drop (Int.toNat (if (b.length:Int)<i*(46:Int) then (b.length:Int) else i*(46:Int))) b))):Int)<=(↑(List.length (bys (List.drop (Int.toNat (if (b.length:Int)<i*(46:Int) then (b.length:Int) else i*(46:Int))) b))):Int):=by simp;omega
 have f14:LV.isl 1 (List.drop 0 (List.take (Int.toNat (Option.getD (some (if 46<(↑(List.length b-Int.toNat (if (b.length:Int)<i*46 then (b.length:Int) else i*46)):Int) then 46 else (↑(List.length b-Int.toNat (if (b.length:Int)<i*46 then (b.length:Int) else i*46)):Int))) (↑(List.length (bys (List.drop (Int.toNat (if (b.length:Int)<i*46 then (b.length:Int) else i*46)) b))):Int))) (bys (List.drop (Int.toNat (if (b.length:Int)<i*46 then (b.length:Int) else i*46)) b))))=LV.isl 1 (bys (List.take (Int.toNat (if 46<(↑(List.length b-Int.toNat (if (b.length:Int)<i*46 then (b.length:Int) else i*46)):Int) then 46 else (↑(List.length b-Int.toNat (if (b.length:Int)<i*46 then (b.length:Int) else i*46)):Int))) (List.drop (Int.toNat (if (b.length:Int)<i*46 then (b.length:Int) else i*46)) b))):=by simp
 have f15:=F (n+19);have f16:List.length (Zg p)=List.length p:=by simp
 have f17:=zq7_12 rm m p;have f18:=W (n+39);have f19:LV.int i64 (IntKind.wrap i64 (st+1))=LV.int i64 (st+1):=by simp (disch:=omega)
 have f20:LV.int i64 (IntKind.wrap i64 (i+1))=LV.int i64 (i+1):=by simp (disch:=omega)
 have f21:=hr;exact dlp (fun h=>ai (congrArg LV.bool f1)<|ai (f2)<|ai (f3)<|ai (f4)<|ai (f5)<|ai (f6)<|ai (f7)<|ai (congrArg some f8)<|ai (congrArg some f9)<|ai (f10)<|ai (f11)<|ai (f11)<|ai (f12)<|ai (f13)<|ai (f14)<|ai (f15)<|ai (f16)<|ai (congrArg some f17)<|ai (f18)<|ai (f19)<|ai (f20)<|ai (Eq.refl (Zc f21))<|ai (f21)<|h) (.i (.s (.a) (.s (.b true (.a)) (.s (.k (.s (.a) (.s (.r [.a,.a,.v (vOf f2) (.a),.a,.a,.v (vOf f3) (.a),.z [.y 48 (vOf f4),.y 54 (vOf f5)] (.v (vOf f7) (.q))]) (.s (.s (.d [.x 2 (vOf f8),.x 1 (vOf f9)] [.a,.a,.a,.a,.a,.a,.v (vOf f10) (.a),.a,.a,.a,.a,.a,.a,.v (vOf f11) (.a),.a,.a,.a,.v (vOf f11) (.a),.v (vOf f12) (.a),.v (vOf f14) (.q),.f (rOf f15)] [] [.fr .q [.x 1 (vOf f17)] (rOf f18)]) (.s (.r []) (.a))) (.s (.r []) (.r [.a,.a,.a,.a,.v (vOf f19) (.a)])))))) (.r [.v (vOf f20) (.a)])))) (.h [] (eOf f21) (Y2 f21) (rOf f21))) (by kernel_rfl)
theorem put_end(n fu:Nat)(base nx st rm N head:Int)(m:ML)(p:PL)(b:List Int)(hb:b.length<=3000)(hN:1<=N)(hN2:N<=100)(hnx:0<=nx)(hnx2:nx<=1000000):
  Z2 prog C0 (n+60) 56 0 2 (fu+1) (ptE b N nx head N) ⟨2,[(0,chO base nx st),(1,dO rm m p)]⟩=some (.exit 0,ptX b N nx head N,⟨2,[(0,chO base nx st),(1,dO rm m p)]⟩):=by
 have f1:decide (N<N)=false:=by simp
 exact dlp (fun h=>ai (congrArg LV.bool f1)<|h) (.i (.s (.a) (.s (.b false (.a)) .a)) (.a)) (by kernel_rfl)
theorem put_thru(n:Nat)(base nx st st' rm u N:Int)(m:ML)(p p':PL)(b:List Int)(hb:b.length<=3000)(hN:1<=N)(hN2:N<=100)(hu:0<=u)(hu2:u<=5000)(hrm2:rm<=4000)(hnx:0<=nx)(hnx2:nx<=1000000)(hok:u+N<=rm)(B:∀ k,Zd prog C0 (Z3 prog C0 (k+20)) (k+20) 32 [.int .i64 (bys b).length] ⟨0,[]⟩=some (.int .i64 N,⟨0,[]⟩))(U:∀ k,Zd prog C0 (Z3 prog C0 (k+20)) (k+20) 34 [.ptr 0 0] ⟨1,[(0,dO rm m p)]⟩=some (.int .i64 u,⟨1,[(0,dO rm m p)]⟩))(L:Z2 prog C0 (n+60) 56 0 2 (n+60) (ptE b N nx 32768 0) ⟨2,[(0,chO base nx st),(1,dO rm m p)]⟩=some (.exit 0,ptX b N nx 0 N,⟨2,[(0,chO base nx st'),(1,dO rm m p')]⟩)):
  Zd prog C0 (Z3 prog C0 (n+60)) (n+60) 56 [.ptr 0 0,.isl 1 (bys b)] ⟨2,[(0,chO base nx st),(1,dO rm m p)]⟩=some (.tup [.int .i64 nx,.nili],⟨2,[(0,chO base (nx+N) st'),(1,dO rm m p')]⟩):=by
 have f1:=B (n+39);have f2:=zq7_0 b;have f3:=zq7_1 m;have f4:=zq7_2 rm p 2 3;have f5:List.length (Zg p)=List.length p:=by simp
 have f6:=zq7_12 rm m p;have f7:=U (n+39);have f8:LV.int i64 (IntKind.wrap i64 (u+N))=LV.int i64 (u+N):=by simp (disch:=omega)
 have f9:=room_ok (n+39) rm m p;have f10:decide (rm<u+N)=false:=by simp;omega
 have f11:LV.int i64 (IntKind.wrap i64 (nx+N))=LV.int i64 (nx+N):=by simp (disch:=omega)
 have f12:LV.bool (if decide (rm<u+N)=true then true else decide (1073741824<nx+N))=LV.bool false:=by simp;omega
 have f13:=L
 exact drn (fun h=>ai (f1)<|ai (f2)<|ai (congrArg some f3)<|ai (congrArg some f4)<|ai (f5)<|ai (congrArg some f6)<|ai (f7)<|ai (f8)<|ai (f9)<|ai (congrArg some f10)<|ai (congrArg some f10)<|ai (congrArg some f10)<|ai (congrArg some f10)<|ai (congrArg some f10)<|ai (congrArg some f10)<|ai (f11)<|ai (congrArg some f10)<|ai (f12)<|ai (Eq.refl (Zc f13))<|ai (f13)<|ai (f11)<|h) (.s (.a) (.s (.r [.a,.a,.f (rOf f1)]) (.s (.s (.d [.y 13 (vOf f2),.x 2 (vOf f3),.x 1 (vOf f4)] [.a,.a,.a,.a,.fr .q [.x 1 (vOf f6)] (rOf f7),.a,.v (vOf f8) (.a),.a,.a,.a,.a,.f (rOf f9),.a,.a,.g false (.a),.g false (.a),.g false (.a),.g false (.a),.g false (.a)] [] [.g false (.v (vOf f11) (.a)),.g false (.a),.v (vOf f12) (.a)]) (.a)) (.s (.a) (.s (.s (.a) (.k (.l (.h [] (eOf f13) (Y2 f13) (rOf f13))))) (.s (.r [.a,.a,.a,.v (vOf f11) (.a)]) (.a))))))) [] .a (by kernel_rfl)
theorem append_thru(n:Nat)(b:List Int)(hb0:0<b.length)(hb:b.length<=3000)(base nx st nx' st' rm:Int)(m:ML)(p p':PL)(T:∀ k,Zd prog C0 (Z3 prog C0 (k+102)) (k+102) 56 [.ptr 0 0,.isl 1 (bys b)] ⟨2,[(0,chO base nx st),(1,dO rm m p)]⟩=some (.tup [.int .i64 nx,.nili],⟨2,[(0,chO base nx' st'),(1,dO rm m p')]⟩)):
  Zd prog C0 (Z3 prog C0 (n+165)) (n+165) 29 [.ptr 0 0,.isl 1 (bys b)] ⟨2,[(0,chO base nx st),(1,dO rm m p)]⟩=some (.tup [.int .i64 nx,.nili],⟨2,[(0,chO base nx' st'),(1,dO rm m p')]⟩):=by
 have hne:b≠[]:=by rintro rfl;simp at hb0
 have f1:decide (((bys b).length:Int)=0)=false:=by simp;omega
 have f2:LV.bool (if decide (((bys b).length:Int)=0)=true then true else decide (16448<((bys b).length:Int)))=LV.bool false:=by simp [-List.reduceReplicate,hb0,hb,hne];omega
 have f3:=T (n+62);exact drn (fun h=>ai (congrArg some f1)<|ai (congrArg some f1)<|ai (congrArg some f1)<|ai (f2)<|ai (f3)<|h) (.s (.a) (.s (.s (.r [.a,.a,.a,.a,.g false (.a),.g false (.a),.g false (.a),.v (vOf f2) (.a)]) (.a)) (.s (.r [.a,.a,.f (rOf f3)]) (.a)))) [] .a (by kernel_rfl)
abbrev oE(at_ last want n:Int)(o:LV):LEnv:=[.ptr 0 0,.int .i64 at_,.int .i64 last,.any,.any,.any,.any,.any,.any,o,.int .i64 want,.int .i64 n,.any,.any,.any,.any,.any,.any,.any,.any,.any,.any,.any,.any,.any,.any,.any,.any,.any,.any,.any,.any,.any,.any,.any,.any,.any,.any,.any,.any,.any,.any,.any,.any,.any,.any,.any,.any,.any,.any,.any,.any,.any,.any,.any,.any,.any,.any,.any,.any,.any,.any,.any,.any,.any,.any,.any,.any,.any,.any,.any,.any,.any,.any,.any,.any,.any,.any,.any,.any,.any,.any,.any,.any,.any,.any,.any,.any,.any]
abbrev oX(n s:Int)(o:LV):LEnv:=[.any,.any,.any,.any,.any,.any,o,.int .i64 n,.int .i64 s,.any,.any,.any,.any,.any,.any,.any,.any,.any,.any,.any,.any,.any,.any,.any,.any,.any,.any,.any,.any,.any,.any,.any,.any,.any,.any,.any,.any,.any,.any,.any,.any,.any,.any,.any,.any,.any,.any,.any,.any,.any,.any,.any,.any,.any,.any,.any,.any,.any,.any,.any,.any,.any,.any,.any,.any,.any,.any,.any,.any,.any,.any,.any,.any,.any,.any,.any,.any,.any,.any,.any,.any,.any,.any,.any,.any,.any,.any,.any,.any]
abbrev oS(rm:Int)(m:ML)(p:PL)(o:List Int):St:=⟨2,[(0,dO rm m p),(1,.row 5 1 (bys o))]⟩
abbrev oS0(rm:Int)(m:ML)(p:PL):St:=⟨1,[(0,dO rm m p)]⟩
abbrev RdF(rm:Int)(m:ML)(p:PL)(a:Int)(b:List Int):Prop:=∀ k,Zd prog C0 (Z3 prog C0 k) k 21 [.ptr 0 0,.int .i64 a] ⟨1,[(0,dO rm m p)]⟩=some (.tup [.isl 1 (bys b),.nili],⟨1,[(0,dO rm m p)]⟩)
abbrev CeF(b:List Int)(t:Int)(g:Bool)(lf:Int)(pt:List Int):Prop:=∀ k,Zd prog C0 (Z3 prog C0 (k+50)) (k+50) 66 [.isl 1 (bys b)] ⟨0,[]⟩=some (.tup [.int .i64 t,.bool g,.int .i64 lf,.isl 1 (bys pt)],⟨0,[]⟩)
theorem o0_g(nn fu:Nat)(rm:Int)(m:ML)(p:PL)(at_ last:Int)(h0:0<=at_)(h1:at_<=1073741823)(b:List Int)(t lf:Int)(pt:List Int)(l0:0<=lf)(t0:0<=t)(t1:t<=1152921504606846976)(la0:0<=last)(la:last<=1152921504606846976)(R:RdF rm m p (at_) b)(C:CeF b t false lf pt):
  Z2 prog C0 (nn+80) 53 0 1 (fu+1) (oE at_ last 0 0 .nils) (oS0 rm m p)=some (.ret,oX 0 0 .nils,oS0 rm m p):=by
 have f1:LV.int i64 (IntKind.wrap i64 (at_+0))=LV.int i64 at_:=by simp (disch:=omega)
 have f2:=R (nn+79);have f3:=C (nn+29);exact dlp (fun h=>ai (f1)<|ai (f2)<|ai (f3)<|h) (.i (.s (.k (.s (.r [.a,.a,.a,.v (vOf f1) (.a),.f (rOf f2)]) (.s (.a) (.s (.r [.a,.f (rOf f3)]) (.a))))) .a) (.a)) (by kernel_rfl)
theorem o0_m(nn fu:Nat)(rm:Int)(m:ML)(p:PL)(at_ last:Int)(h0:0<=at_)(h1:at_<=1073741823)(b:List Int)(t lf:Int)(pt:List Int)(l0:0<=lf)(t0:0<=t)(t1:t<=1152921504606846976)(la0:0<=last)(la:last<=1152921504606846976)(h:16448<lf)(R:RdF rm m p (at_) b)(C:CeF b t true lf pt):
  Z2 prog C0 (nn+80) 53 0 1 (fu+1) (oE at_ last 0 0 .nils) (oS0 rm m p)=some (.ret,oX 0 0 .nils,oS0 rm m p):=by
 have f1:LV.int i64 (IntKind.wrap i64 (at_+0))=LV.int i64 at_:=by simp (disch:=omega)
 have f2:=R (nn+79);have f3:=C (nn+29);have f4:LV.bool (if false=true then true else decide (16448<lf))=LV.bool true:=by simp;omega
 exact dlp (fun h=>ai (f1)<|ai (f2)<|ai (f3)<|ai (f4)<|h) (.i (.s (.k (.s (.r [.a,.a,.a,.v (vOf f1) (.a),.f (rOf f2)]) (.s (.a) (.s (.r [.a,.f (rOf f3)]) (.s (.k (.s (.r [.a,.a,.a,.a,.a,.a,.a,.v (vOf f4) (.a)]) (.a))) .a))))) .a) (.a)) (by kernel_rfl)
theorem o0_t(nn fu:Nat)(rm:Int)(m:ML)(p:PL)(at_ last:Int)(h0:0<=at_)(h1:at_<=1073741823)(b:List Int)(t lf:Int)(pt:List Int)(l0:0<=lf)(t0:0<=t)(t1:t<=1152921504606846976)(la0:0<=last)(la:last<=1152921504606846976)(hl:lf<=16448)(h:t<=last)(R:RdF rm m p (at_) b)(C:CeF b t true lf pt):
  Z2 prog C0 (nn+80) 53 0 1 (fu+1) (oE at_ last 0 0 .nils) (oS0 rm m p)=some (.ret,oX 0 0 .nils,oS0 rm m p):=by
 have f1:LV.int i64 (IntKind.wrap i64 (at_+0))=LV.int i64 at_:=by simp (disch:=omega)
 have f2:=R (nn+79);have f3:=C (nn+29);have f4:LV.bool (if false=true then true else decide (16448<lf))=LV.bool false:=by simp;omega
 have f5:LV.bool (if true=true then decide (t<=last) else false)=LV.bool true:=by simp;omega
 exact dlp (fun h=>ai (f1)<|ai (f2)<|ai (f3)<|ai (f4)<|ai (f5)<|h) (.i (.s (.k (.s (.r [.a,.a,.a,.v (vOf f1) (.a),.f (rOf f2)]) (.s (.a) (.s (.r [.a,.f (rOf f3)]) (.s (.k (.s (.r [.a,.a,.a,.a,.a,.a,.a,.v (vOf f4) (.a)]) (.c (.s (.r [.a,.a,.a,.a,.a,.a,.v (vOf f5) (.a)]) (.a))))) .a))))) .a) (.a)) (by kernel_rfl)
theorem o0_d(nn fu:Nat)(rm:Int)(m:ML)(p:PL)(at_ last:Int)(h0:0<=at_)(h1:at_<=1073741823)(b:List Int)(t lf:Int)(pt:List Int)(hp:pt.length=46)(l0:0<=lf)(t0:0<=t)(t1:t<=1152921504606846976)(la0:0<=last)(la:last<=1152921504606846976)(hl:lf<=46)(h:last<t)(R:RdF rm m p (at_) b)(C:CeF b t true lf pt):
  Z2 prog C0 (nn+80) 53 0 1 (fu+1) (oE at_ last 0 0 .nils) (oS0 rm m p)=some (.ret,oX 1 t (.sl 1 1 0 lf.toNat none),oS rm m p (pt.take lf.toNat)):=by
 have f1:LV.int i64 (IntKind.wrap i64 (at_+0))=LV.int i64 at_:=by simp (disch:=omega)
 have f2:=R (nn+79);have f3:=C (nn+29);have f4:LV.bool (if false=true then true else decide (16448<lf))=LV.bool false:=by simp;omega
 have f5:LV.bool (if true=true then decide (t<=last) else false)=LV.bool false:=by simp;omega
 have f6:decide (lf<=46)=true:=by simp;omega
 have f7:(0:Int)<=(0:Int)/\(0:Int)<=Option.getD (some lf) ((bys pt).length:Int)/\Option.getD (some lf) ((bys pt).length:Int)<=((bys pt).length:Int):=by simp;omega
 have f8:=zq7_8 lf pt;have f9:=zq7_9 lf pt;have f10:List.length (Zi (bys (List.take (lf.toNat) pt)))*1<=140737488355328:=by simp;omega
 have f11:LV.sl 1 1 0 (List.length (Zi (bys (List.take (lf.toNat) pt)))) none=LV.sl 1 1 0 (lf.toNat) none:=by simp (disch:=omega)
 have f12:LObj.row 5 1 (Zi (bys (List.take (lf.toNat) pt)))=LObj.row 5 1 (bys (List.take (lf.toNat) pt)):=by simp
 exact dlp (fun h=>ai (f1)<|ai (f2)<|ai (f3)<|ai (f4)<|ai (f5)<|ai (congrArg LV.bool f6)<|ai (f7)<|ai (f8)<|ai (f9)<|ai (f10)<|ai (f11)<|ai (congrArg some f12)<|h) (.i (.s (.k (.s (.r [.a,.a,.a,.v (vOf f1) (.a),.f (rOf f2)]) (.s (.a) (.s (.r [.a,.f (rOf f3)]) (.s (.k (.s (.r [.a,.a,.a,.a,.a,.a,.a,.v (vOf f4) (.a)]) (.c (.s (.r [.a,.a,.a,.a,.a,.a,.v (vOf f5) (.a)]) (.a))))) (.s (.a) (.s (.s (.a) (.b true (.s (.r [.a,.a,.a,.v (vOf f8) (.q),.x 1 (vOf f12) (.v (vOf f11) (.q))]) (.a)))) .a))))))) .a) (.a)) (by kernel_rfl)
theorem o0_c(nn fu:Nat)(rm:Int)(m:ML)(p:PL)(at_ last:Int)(h0:0<=at_)(h1:at_<=1073741823)(b:List Int)(t lf:Int)(pt:List Int)(hp:pt.length=46)(l0:0<=lf)(t0:0<=t)(t1:t<=1152921504606846976)(la0:0<=last)(la:last<=1152921504606846976)(hl:lf<=16448)(hl2:46<lf)(h:last<t)(R:RdF rm m p (at_) b)(C:CeF b t true lf pt)(r:LX × LEnv × St)(hr:Z2 prog C0 (nn+80) 53 0 1 fu (oE at_ t (lf-46) 1 (.sl 1 1 0 46 none)) (oS rm m p pt)=some r):
  Z2 prog C0 (nn+80) 53 0 1 (fu+1) (oE at_ last 0 0 .nils) (oS0 rm m p)=some r:=by
 have f1:LV.int i64 (IntKind.wrap i64 (at_+0))=LV.int i64 at_:=by simp (disch:=omega)
 have f2:=R (nn+79);have f3:=C (nn+29);have f4:LV.bool (if false=true then true else decide (16448<lf))=LV.bool false:=by simp;omega
 have f5:LV.bool (if true=true then decide (t<=last) else false)=LV.bool false:=by simp;omega
 have f6:decide (lf<=46)=false:=by simp;omega
 have f7:Yx true 1 (Zi (bys pt))=true:=by simp
 have f8:List.length (Zi (bys pt))*1<=140737488355328:=by simp;omega
 have f9:LV.sl 1 1 0 (List.length (Zi (bys pt))) none=LV.sl 1 1 0 46 none:=by simp;omega
 have f10:LObj.row 5 1 (Zi (bys pt))=LObj.row 5 1 (bys pt):=by simp
 have f11:LV.int i64 (IntKind.wrap i64 (lf-46))=LV.int i64 (lf-46):=by simp (disch:=omega)
 have f12:=hr;exact dlp (fun h=>ai (f1)<|ai (f2)<|ai (f3)<|ai (f4)<|ai (f5)<|ai (congrArg LV.bool f6)<|ai (f7)<|ai (f8)<|ai (f9)<|ai (congrArg some f10)<|ai (f11)<|ai (Eq.refl (Zc f12))<|ai (f12)<|h) (.i (.s (.k (.s (.r [.a,.a,.a,.v (vOf f1) (.a),.f (rOf f2)]) (.s (.a) (.s (.r [.a,.f (rOf f3)]) (.s (.k (.s (.r [.a,.a,.a,.a,.a,.a,.a,.v (vOf f4) (.a)]) (.c (.s (.r [.a,.a,.a,.a,.a,.a,.v (vOf f5) (.a)]) (.a))))) (.s (.a) (.s (.s (.a) (.b false (.a))) (.s (.r [.a,.a,.x 1 (vOf f10) (.v (vOf f9) (.q))]) (.r [.a,.v (vOf f11) (.a)]))))))))) (.a)) (.h [] (eOf f12) (Y2 f12) (rOf f12))) (by kernel_rfl)
theorem on_g(nn fu:Nat)(rm:Int)(m:ML)(p:PL)(at_ last:Int)(h0:0<=at_)(h1:at_<=1073741823)(b:List Int)(t lf:Int)(pt:List Int)(l0:0<=lf)(t0:0<=t)(t1:t<=1152921504606846976)(la0:0<=last)(la:last<=1152921504606846976)(want n:Int)(n0:1<=n)(n1:at_+n<=1073741823)(o:List Int)(ho:o.length<=100000)(R:RdF rm m p (at_+n) b)(C:CeF b t true lf pt):
  Z2 prog C0 (nn+80) 53 0 1 (fu+1) (oE at_ last want n (.sl 1 1 0 o.length none)) (oS rm m p o)=some (.ret,oX 0 0 .nils,oS0 rm m p):=by
 have f1:LV.int i64 (IntKind.wrap i64 (at_+n))=LV.int i64 (at_+n):=by simp (disch:=omega)
 have f2:=R (nn+79);have f3:=C (nn+29);have f4:(!true==decide (n=0))=true:=by simp;omega
 have f5:Wa (!true==decide (n=0)) (LV.bool true) LV.any=some (LV.bool true):=by simp;omega
 exact dlp (fun h=>ai (f1)<|ai (f2)<|ai (f3)<|ai (congrArg some f4)<|ai (congrArg some f4)<|ai (Yp (st:=(St.mk 2 [(0,LObj.box 77 [.int i64 rm,.omap i64 (Zn m) (Xl m),.own 88 2 (Zg p)]),(1,LObj.row 5 1 (bys o))])) f5)<|h) (.i (.s (.k (.s (.r [.a,.a,.a,.v (vOf f1) (.a),.f (rOf f2)]) (.s (.a) (.s (.r [.a,.f (rOf f3)]) (.s (.k (.s (.r [.a,.a,.a,.a,.a,.g true (.a),.g true (.a),.t (rOf (Yp (st:=(St.mk 2 [(0,LObj.box 77 [.int i64 rm,.omap i64 (Zn m) (Xl m),.own 88 2 (Zg p)]),(1,LObj.row 5 1 (bys o))])) f5))]) (.a))) .a))))) .a) (.a)) (by kernel_rfl)
theorem on_m(nn fu:Nat)(rm:Int)(m:ML)(p:PL)(at_ last:Int)(h0:0<=at_)(h1:at_<=1073741823)(b:List Int)(t lf:Int)(pt:List Int)(l0:0<=lf)(t0:0<=t)(t1:t<=1152921504606846976)(la0:0<=last)(la:last<=1152921504606846976)(want n:Int)(n0:1<=n)(n1:at_+n<=1073741823)(o:List Int)(ho:o.length<=100000)(h:16448<lf)(R:RdF rm m p (at_+n) b)(C:CeF b t false lf pt):
  Z2 prog C0 (nn+80) 53 0 1 (fu+1) (oE at_ last want n (.sl 1 1 0 o.length none)) (oS rm m p o)=some (.ret,oX 0 0 .nils,oS0 rm m p):=by
 have f1:LV.int i64 (IntKind.wrap i64 (at_+n))=LV.int i64 (at_+n):=by simp (disch:=omega)
 have f2:=R (nn+79);have f3:=C (nn+29);have f4:(!false==decide (n=0))=false:=by simp;omega
 have f5:LV.bool (if (!false==decide (n=0))=true then true else decide (16448<lf))=LV.bool true:=by simp;omega
 exact dlp (fun h=>ai (f1)<|ai (f2)<|ai (f3)<|ai (congrArg some f4)<|ai (congrArg some f4)<|ai (f5)<|h) (.i (.s (.k (.s (.r [.a,.a,.a,.v (vOf f1) (.a),.f (rOf f2)]) (.s (.a) (.s (.r [.a,.f (rOf f3)]) (.s (.k (.s (.r [.a,.a,.a,.a,.a,.g false (.a),.g false (.a),.v (vOf f5) (.a)]) (.a))) .a))))) .a) (.a)) (by kernel_rfl)
theorem on_w(nn fu:Nat)(rm:Int)(m:ML)(p:PL)(at_ last:Int)(h0:0<=at_)(h1:at_<=1073741823)(b:List Int)(t lf:Int)(pt:List Int)(l0:0<=lf)(t0:0<=t)(t1:t<=1152921504606846976)(la0:0<=last)(la:last<=1152921504606846976)(want n:Int)(n0:1<=n)(n1:at_+n<=1073741823)(o:List Int)(ho:o.length<=100000)(hl:lf<=16448)(h:¬ lf=want)(R:RdF rm m p (at_+n) b)(C:CeF b t false lf pt):
  Z2 prog C0 (nn+80) 53 0 1 (fu+1) (oE at_ last want n (.sl 1 1 0 o.length none)) (oS rm m p o)=some (.ret,oX 0 0 .nils,oS0 rm m p):=by
 have f1:LV.int i64 (IntKind.wrap i64 (at_+n))=LV.int i64 (at_+n):=by simp (disch:=omega)
 have f2:=R (nn+79);have f3:=C (nn+29);have f4:(!false==decide (n=0))=false:=by simp;omega
 have f5:LV.bool (if (!false==decide (n=0))=true then true else decide (16448<lf))=LV.bool false:=by simp;omega
 have f6:decide (0<n)=true:=by simp;omega
 have f7:LV.bool (if decide (0<n)=true then !decide (lf=want) else false)=LV.bool true:=by simp;omega
 exact dlp (fun h=>ai (f1)<|ai (f2)<|ai (f3)<|ai (congrArg some f4)<|ai (congrArg some f4)<|ai (f5)<|ai (congrArg some f6)<|ai (congrArg some f6)<|ai (congrArg some f6)<|ai (f7)<|h) (.i (.s (.k (.s (.r [.a,.a,.a,.v (vOf f1) (.a),.f (rOf f2)]) (.s (.a) (.s (.r [.a,.f (rOf f3)]) (.s (.k (.s (.r [.a,.a,.a,.a,.a,.g false (.a),.g false (.a),.v (vOf f5) (.a),.a,.a,.a,.a,.g true (.a),.g true (.a),.g true (.a),.v (vOf f7) (.a)]) (.a))) .a))))) .a) (.a)) (by kernel_rfl)
theorem on_t(nn fu:Nat)(rm:Int)(m:ML)(p:PL)(at_ last:Int)(h0:0<=at_)(h1:at_<=1073741823)(b:List Int)(t lf:Int)(pt:List Int)(l0:0<=lf)(t0:0<=t)(t1:t<=1152921504606846976)(la0:0<=last)(la:last<=1152921504606846976)(want n:Int)(n0:1<=n)(n1:at_+n<=1073741823)(o:List Int)(ho:o.length<=100000)(hl:lf<=16448)(hw:lf=want)(h:¬ t=last+1)(R:RdF rm m p (at_+n) b)(C:CeF b t false lf pt):
  Z2 prog C0 (nn+80) 53 0 1 (fu+1) (oE at_ last want n (.sl 1 1 0 o.length none)) (oS rm m p o)=some (.ret,oX 0 0 .nils,oS0 rm m p):=by
 have f1:LV.int i64 (IntKind.wrap i64 (at_+n))=LV.int i64 (at_+n):=by simp (disch:=omega)
 have f2:=R (nn+79);have f3:=C (nn+29);have f4:(!false==decide (n=0))=false:=by simp;omega
 have f5:LV.bool (if (!false==decide (n=0))=true then true else decide (16448<lf))=LV.bool false:=by simp;omega
 have f6:decide (0<n)=true:=by simp;omega
 have f7:LV.bool (if decide (0<n)=true then !decide (lf=want) else false)=LV.bool false:=by simp;omega
 have f8:decide (n=0)=false:=by simp;omega
 have f9:Wa (decide (n=0)) LV.any (LV.bool false)=some (LV.bool false):=by simp;omega
 have f10:LV.int i64 (IntKind.wrap i64 (last+1))=LV.int i64 (last+1):=by simp (disch:=omega)
 have f11:LV.bool (if decide (0<n)=true then !decide (t=last+1) else false)=LV.bool true:=by simp;omega
 exact dlp (fun h=>ai (f1)<|ai (f2)<|ai (f3)<|ai (congrArg some f4)<|ai (congrArg some f4)<|ai (f5)<|ai (congrArg some f6)<|ai (congrArg some f6)<|ai (congrArg some f6)<|ai (f7)<|ai (congrArg some f8)<|ai (congrArg some f8)<|ai (congrArg some f8)<|ai (Yp (st:=(St.mk 2 [(0,LObj.box 77 [.int i64 rm,.omap i64 (Zn m) (Xl m),.own 88 2 (Zg p)]),(1,LObj.row 5 1 (bys o))])) f9)<|ai (congrArg some f6)<|ai (congrArg some f6)<|ai (congrArg some f6)<|ai (f10)<|ai (congrArg some f6)<|ai (f11)<|h) (.i (.s (.k (.s (.r [.a,.a,.a,.v (vOf f1) (.a),.f (rOf f2)]) (.s (.a) (.s (.r [.a,.f (rOf f3)]) (.s (.k (.s (.r [.a,.a,.a,.a,.a,.g false (.a),.g false (.a),.v (vOf f5) (.a),.a,.a,.a,.a,.g true (.a),.g true (.a),.g true (.a),.v (vOf f7) (.a)]) (.c (.s (.r [.a,.a,.a,.g false (.a),.g false (.a),.g false (.a),.t (rOf (Yp (st:=(St.mk 2 [(0,LObj.box 77 [.int i64 rm,.omap i64 (Zn m) (Xl m),.own 88 2 (Zg p)]),(1,LObj.row 5 1 (bys o))])) f9)),.a,.a,.a,.a,.g true (.a),.g true (.a),.g true (.v (vOf f10) (.a)),.g true (.a),.v (vOf f11) (.a)]) (.a))))) .a))))) .a) (.a)) (by kernel_rfl)
theorem on_d(nn fu:Nat)(rm:Int)(m:ML)(p:PL)(at_ last:Int)(h0:0<=at_)(h1:at_<=1073741823)(b:List Int)(t lf:Int)(pt:List Int)(hp:pt.length=46)(l0:0<=lf)(t0:0<=t)(t1:t<=1152921504606846976)(la0:0<=last)(la:last<=1152921504606846976)(want n:Int)(n0:1<=n)(n1:at_+n<=1073741823)(o:List Int)(ho:o.length<=100000)(hl:lf<=46)(hw:lf=want)(h:t=last+1)(R:RdF rm m p (at_+n) b)(C:CeF b t false lf pt):
  Z2 prog C0 (nn+80) 53 0 1 (fu+1) (oE at_ last want n (.sl 1 1 0 o.length none)) (oS rm m p o)=some (.ret,oX (n+1) t (.sl 1 1 0 (o.length+lf.toNat) none),oS rm m p (o++pt.take lf.toNat)):=by
 have f1:LV.int i64 (IntKind.wrap i64 (at_+n))=LV.int i64 (at_+n):=by simp (disch:=omega)
 have f2:=R (nn+79);have f3:=C (nn+29);have f4:(!false==decide (n=0))=false:=by simp;omega
 have f5:LV.bool (if (!false==decide (n=0))=true then true else decide (16448<lf))=LV.bool false:=by simp;omega
 have f6:decide (0<n)=true:=by simp;omega
 have f7:LV.bool (if decide (0<n)=true then !decide (lf=want) else false)=LV.bool false:=by simp;omega
 have f8:decide (n=0)=false:=by simp;omega
 have f9:Wa (decide (n=0)) LV.any (LV.bool false)=some (LV.bool false):=by simp;omega
 have f10:LV.int i64 (IntKind.wrap i64 (last+1))=LV.int i64 (last+1):=by simp (disch:=omega)
 have f11:LV.bool (if decide (0<n)=true then !decide (t=last+1) else false)=LV.bool false:=by simp;omega
 have f12:decide (lf<=46)=true:=by simp;omega
 have f13:(0:Int)<=(0:Int)/\(0:Int)<=Option.getD (some lf) ((bys pt).length:Int)/\Option.getD (some lf) ((bys pt).length:Int)<=((bys pt).length:Int):=by simp;omega
 have f14:LV.isl 1 (List.drop 0 (List.take (Int.toNat (Option.getD (some lf) ((bys pt).length:Int))) (bys pt)))=LV.isl 1 (bys (List.take (want.toNat) pt)):=by simp (disch:=omega) [-List.reduceReplicate,h0,h1,hp,l0,t0,t1,la0,la,n0,n1,ho,hl,hw,h,R,C]
 have f15:=zq7_9 want pt;have f16:List.length (bys o)=List.length o/\(List.length o+List.length (Zi (bys (List.take (want.toNat) pt))))*1<=140737488355328:=by simp;omega
 have f17:LV.sl 1 2 0 (List.length o+List.length (Zi (bys (List.take (want.toNat) pt)))) none=LV.sl 1 2 0 (List.length o+want.toNat) none:=by simp (disch:=omega)
 have f18:LObj.row 5 1 (bys o++Zi (bys (List.take (want.toNat) pt)))=LObj.row 5 1 (bys (o++List.take (want.toNat) pt)):=by simp
 have f19:LV.int i64 (IntKind.wrap i64 (n+1))=LV.int i64 (n+1):=by simp (disch:=omega)
 have f20:(LX.ret,[.any,.any,.any,.any,.any,.any,.sl 1 1 0 (List.length o+want.toNat) none,.int i64 (n+1),.int i64 t,.any,.any,.any,.any,.any,.any,.any,.any,.any,.any,.any,.any,.any,.any,.any,.any,.any,.any,.any,.any,.any,.any,.any,.any,.any,.any,.any,.any,.any,.any,.any,.any,.any,.any,.any,.any,.any,.any,.any,.any,.any,.any,.any,.any,.any,.any,.any,.any,.any,.any,.any,.any,.any,.any,.any,.any,.any,.any,.any,.any,.any,.any,.any,.any,.any,.any,.any,.any,.any,.any,.any,.any,.any,.any,.any,.any,.any,.any,.any,.any],St.mk 2 [(0,LObj.box 77 [.int i64 rm,.omap i64 (Zn m) (Xl m),.own 88 2 (Zg p)]),(1,LObj.row 5 1 (bys (o++List.take (want.toNat) pt)))])=(LX.ret,oX (n+1) t (LV.sl 1 1 0 (List.length o+lf.toNat) none),oS rm m p (o++List.take (lf.toNat) pt)):=by simp (disch:=omega) [-List.reduceReplicate,h0,h1,hp,l0,t0,t1,la0,la,n0,n1,ho,hl,hw,h,R,C]
 exact dlp (fun h=>ai (f1)<|ai (f2)<|ai (f3)<|ai (congrArg some f4)<|ai (congrArg some f4)<|ai (f5)<|ai (congrArg some f6)<|ai (congrArg some f6)<|ai (congrArg some f6)<|ai (f7)<|ai (congrArg some f8)<|ai (congrArg some f8)<|ai (congrArg some f8)<|ai (Yp (st:=(St.mk 2 [(0,LObj.box 77 [.int i64 rm,.omap i64 (Zn m) (Xl m),.own 88 2 (Zg p)]),(1,LObj.row 5 1 (bys o))])) f9)<|ai (congrArg some f6)<|ai (congrArg some f6)<|ai (congrArg some f6)<|ai (f10)<|ai (congrArg some f6)<|ai (f11)<|ai (congrArg LV.bool f12)<|ai (f13)<|ai (f14)<|ai (f15)<|ai (f16)<|ai (f17)<|ai (congrArg some f18)<|ai (f19)<|f20) (.i (.s (.k (.s (.r [.a,.a,.a,.v (vOf f1) (.a),.f (rOf f2)]) (.s (.a) (.s (.r [.a,.f (rOf f3)]) (.s (.k (.s (.r [.a,.a,.a,.a,.a,.g false (.a),.g false (.a),.v (vOf f5) (.a),.a,.a,.a,.a,.g true (.a),.g true (.a),.g true (.a),.v (vOf f7) (.a)]) (.c (.s (.r [.a,.a,.a,.g false (.a),.g false (.a),.g false (.a),.t (rOf (Yp (st:=(St.mk 2 [(0,LObj.box 77 [.int i64 rm,.omap i64 (Zn m) (Xl m),.own 88 2 (Zg p)]),(1,LObj.row 5 1 (bys o))])) f9)),.a,.a,.a,.a,.g true (.a),.g true (.a),.g true (.v (vOf f10) (.a)),.g true (.a),.v (vOf f11) (.a)]) (.a))))) (.s (.a) (.s (.s (.a) (.b true (.s (.r [.a,.a,.a,.v (vOf f14) (.q),.x 2 (vOf f18) (.v (vOf f17) (.q)),.a,.v (vOf f19) (.a)]) (.a)))) .a))))))) .a) (.a)) (by kernel_rfl)
theorem on_c(nn fu:Nat)(rm:Int)(m:ML)(p:PL)(at_ last:Int)(h0:0<=at_)(h1:at_<=1073741823)(b:List Int)(lf:Int)(pt:List Int)(hp:pt.length=46)(l0:0<=lf)(la0:0<=last)(la:last<1152921504606846976)(n:Int)(n0:1<=n)(n1:at_+n<=1073741823)(o:List Int)(ho:o.length<=100000)(hl:lf<=16448)(hl2:46<lf)(R:RdF rm m p (at_+n) b)(C:CeF b (last+1) false lf pt)(r:LX × LEnv × St)(hr:Z2 prog C0 (nn+80) 53 0 1 fu (oE at_ (last+1) (lf-46) (n+1) (.sl 1 1 0 (o.length+46) none)) (oS rm m p (o++pt))=some r):
  Z2 prog C0 (nn+80) 53 0 1 (fu+1) (oE at_ last lf n (.sl 1 1 0 o.length none)) (oS rm m p o)=some r:=by
 have f1:LV.int i64 (IntKind.wrap i64 (at_+n))=LV.int i64 (at_+n):=by simp (disch:=omega)
 have f2:=R (nn+79);have f3:=C (nn+29);have f4:(!false==decide (n=0))=false:=by simp;omega
 have f5:LV.bool (if (!false==decide (n=0))=true then true else decide (16448<lf))=LV.bool false:=by simp;omega
 have f6:decide (0<n)=true:=by simp;omega
 have f7:LV.bool (if decide (0<n)=true then !decide (lf=lf) else false)=LV.bool false:=by simp
 have f8:decide (n=0)=false:=by simp;omega
 have f9:Wa (decide (n=0)) LV.any (LV.bool false)=some (LV.bool false):=by simp;omega
 have f10:LV.int i64 (IntKind.wrap i64 (last+1))=LV.int i64 (last+1):=by simp (disch:=omega)
 have f11:LV.bool (if decide (0<n)=true then !decide (last+1=last+1) else false)=LV.bool false:=by simp
 have f12:decide (lf<=46)=false:=by simp;omega
 have f13:Yx true 1 (Zi (bys pt))=true:=by simp
 have f14:List.length (bys o)=List.length o/\(List.length o+List.length (Zi (bys pt)))*1<=140737488355328:=by simp;omega
 have f15:LV.sl 1 2 0 (List.length o+List.length (Zi (bys pt))) none=LV.sl 1 2 0 (List.length o+46) none:=by simp;omega
 have f16:LObj.row 5 1 (bys o++Zi (bys pt))=LObj.row 5 1 (bys (o++pt)):=by simp
 have f17:LV.int i64 (IntKind.wrap i64 (lf-46))=LV.int i64 (lf-46):=by simp (disch:=omega)
 have f18:LV.int i64 (IntKind.wrap i64 (n+1))=LV.int i64 (n+1):=by simp (disch:=omega)
 have f19:=hr;exact dlp (fun h=>ai (f1)<|ai (f2)<|ai (f3)<|ai (congrArg some f4)<|ai (congrArg some f4)<|ai (f5)<|ai (congrArg some f6)<|ai (congrArg some f6)<|ai (congrArg some f6)<|ai (f7)<|ai (congrArg some f8)<|ai (congrArg some f8)<|ai (congrArg some f8)<|ai (Yp (st:=(St.mk 2 [(0,LObj.box 77 [.int i64 rm,.omap i64 (Zn m) (Xl m),.own 88 2 (Zg p)]),(1,LObj.row 5 1 (bys o))])) f9)<|ai (congrArg some f6)<|ai (congrArg some f6)<|ai (congrArg some f6)<|ai (f10)<|ai (congrArg some f6)<|ai (f11)<|ai (congrArg LV.bool f12)<|ai (f13)<|ai (f14)<|ai (f15)<|ai (congrArg some f16)<|ai (f17)<|ai (f18)<|ai (Eq.refl (Zc f19))<|ai (f19)<|h) (.i (.s (.k (.s (.r [.a,.a,.a,.v (vOf f1) (.a),.f (rOf f2)]) (.s (.a) (.s (.r [.a,.f (rOf f3)]) (.s (.k (.s (.r [.a,.a,.a,.a,.a,.g false (.a),.g false (.a),.v (vOf f5) (.a),.a,.a,.a,.a,.g true (.a),.g true (.a),.g true (.a),.v (vOf f7) (.a)]) (.c (.s (.r [.a,.a,.a,.g false (.a),.g false (.a),.g false (.a),.t (rOf (Yp (st:=(St.mk 2 [(0,LObj.box 77 [.int i64 rm,.omap i64 (Zn m) (Xl m),.own 88 2 (Zg p)]),(1,LObj.row 5 1 (bys o))])) f9)),.a,.a,.a,.a,.g true (.a),.g true (.a),.g true (.v (vOf f10) (.a)),.g true (.a),.v (vOf f11) (.a)]) (.a))))) (.s (.a) (.s (.s (.a) (.b false (.a))) (.s (.r [.a,.a,.x 2 (vOf f16) (.v (vOf f15) (.q))]) (.r [.a,.v (vOf f17) (.a)]))))))))) (.r [.a,.v (vOf f18) (.a)])) (.h [] (eOf f19) (Y2 f19) (rOf f19))) (by kernel_rfl)
theorem one_none(n:Nat)(rm:Int)(m:ML)(p:PL)(at_ last:Int)(L:Z2 prog C0 (n+80) 53 0 1 (n+80) (oE at_ last 0 0 .nils) (oS0 rm m p)=some (.ret,oX 0 0 .nils,oS0 rm m p)):
  Zd prog C0 (Z3 prog C0 (n+80)) (n+80) 53 [.ptr 0 0,.int .i64 at_,.int .i64 last] ⟨1,[(0,dO rm m p)]⟩=some (.tup [.isl 1 [],.int .i64 0,.int .i64 0],⟨1,[(0,dO rm m p)]⟩):=by
 have f1:=L
 exact drn (fun h=>ai (Eq.refl (Zc f1))<|ai (f1)<|h) (.s (.a) (.s (.a) (.s (.a) (.s (.a) (.k (.l (.h [] (eOf f1) (Y2 f1) (rOf f1)))))))) [] .a (by kernel_rfl)
theorem one_some(n:Nat)(rm:Int)(m:ML)(p:PL)(at_ last c s:Int)(o:List Int)(k:Nat)(hk:(bys o).take k=bys o)(hk2:k<=o.length)(L:Z2 prog C0 (n+80) 53 0 1 (n+80) (oE at_ last 0 0 .nils) (oS0 rm m p)=some (.ret,oX c s (.sl 1 1 0 k none),oS rm m p o)):
  Zd prog C0 (Z3 prog C0 (n+80)) (n+80) 53 [.ptr 0 0,.int .i64 at_,.int .i64 last] ⟨1,[(0,dO rm m p)]⟩=some (.tup [.isl 1 (bys o),.int .i64 c,.int .i64 s],⟨1,[(0,dO rm m p)]⟩):=by
 have f1:=L
 have f2:LV.tup [if 1=1 then if 1=1/\0+k<=List.length (bys o)/\W0 k none=true then LV.isl 1 (List.take k (List.drop 0 (bys o))) else LV.any else LV.sl 1 1 0 k none,.int i64 c,.int i64 s]=LV.tup [.isl 1 (bys o),.int i64 c,.int i64 s]:=by simp (disch:=omega) [-List.reduceReplicate,hk,hk2,L]
 exact drn (fun h=>ai (Eq.refl (Zc f1))<|ai (f1)<|ai (f2)<|h) (.s (.a) (.s (.a) (.s (.a) (.s (.a) (.k (.l (.h [] (eOf f1) (Y2 f1) (rOf f1)))))))) [.y 0 (vOf f2)] .a (by kernel_rfl)
def oneS(rd:Int->List Int)(at_:Int):Nat->Int->Int->Int->List Int->Option (List Int × Int × Int)
 | 0,_,_,_,_=>none
 | k+1,n,want,last,o =>
  let c:=Y9 (rd (at_+n))
  if c.g=true∨16448<c.lf∨¬ c.lf=want∨¬ c.t=last+1 then none
  else if c.lf<=46 then some (o++c.pt.take c.lf.toNat,n+1,c.t) else oneS rd at_ k (n+1) (c.lf-46) c.t (o++c.pt)
def Xs(rd:Int->List Int)(at_ last:Int):Option (List Int × Int × Int):=
 let c:=Y9 (rd at_)
 if c.g=false∨16448<c.lf∨c.t<=last then none
 else if c.lf<=46 then some (c.pt.take c.lf.toNat,1,c.t) else oneS rd at_ 360 1 (c.lf-46) c.t c.pt
theorem cellS_ok{b:List Int}(hb:b.length=64)(hB:byB b):0<=(Y9 b).t/\(Y9 b).t<=1152921504606846976/\0<=(Y9 b).lf/\(Y9 b).lf<32768/\(0<(Y9 b).lf∨(Y9 b).g=true->(Y9 b).pt.length=46):=by
 have h8:=W7 hB 8;have h9:=W7 hB 9;have hn:=numB_le hB;unfold Y9
 split
 ·exact ⟨hn.1,hn.2,Int.emod_nonneg _ (by omega),Int.emod_lt_of_pos _ (by omega),fun _=>by simp [hb]⟩
 ·simp
theorem cellS_by{b:List Int}(hB:byB b):byB (Y9 b).pt:=by
 unfold Y9
 split
 ·exact (hB.drop 10).take 46
 ·intro x hx;simp at hx
def oR(rm:Int)(m:ML)(p:PL):Option (List Int × Int × Int)->LX × LEnv × St
 | none=>(.ret,oX 0 0 .nils,oS0 rm m p)
 | some (o,c,s)=>(.ret,oX c s (.sl 1 1 0 o.length none),oS rm m p o)
theorem one_loop(nn:Nat)(rm:Int)(m:ML)(p:PL)(at_:Int)(h0:0<=at_)(h1:at_<=1073741000)(hB:∀ a,byB (rd m p a))(R:∀ a,0<=a->a<=1073741823->RdF rm m p a (rd m p a)):
  ∀ (k fu:Nat) (n want last:Int) (o:List Int),k<=fu->1<=n->n+k<=400->want<=46*k->0<want->0<=last->last<=1152921504606846976->o.length+46*k<=100000 ->
  Z2 prog C0 (nn+80) 53 0 1 fu (oE at_ last want n (.sl 1 1 0 o.length none)) (oS rm m p o)=some (oR rm m p (oneS (rd m p) at_ k n want last o))
 | 0,fu,n,want,last,o,hf,hn,hk,hw,hw0,hl,hl1,ho=>by omega
 | k+1,fu,n,want,last,o,hf,hn,hk,hw,hw0,hl,hl1,ho=>by
  obtain ⟨fu,rfl⟩:∃ q,fu=q+1:=⟨fu-1,by omega⟩
  have C:=fun i=>cell_any i (rd_length m p (at_+n)) (hB (at_+n))
  have Rd:=R (at_+n) (by omega) (by omega)
  obtain ⟨c1,c2,c3,c4,c5⟩:=cellS_ok (rd_length m p (at_+n)) (hB (at_+n));unfold oneS;simp only;generalize Y9 (rd m p (at_+n))=c at *;obtain ⟨t,g,lf,pt⟩:=c
  simp only at C c1 c2 c3 c4 c5 ⊢
  cases g with
  | true =>
   rw [if_pos (.inl rfl)];exact on_g nn fu rm m p at_ last h0 (by omega) _ t lf pt c3 c1 c2 hl hl1 want n hn (by omega) o (by omega) Rd C
  | false =>
   by_cases e1:16448<lf
   ·rw [if_pos (.inr (.inl e1))]
    exact on_m nn fu rm m p at_ last h0 (by omega) _ t lf pt c3 c1 c2 hl hl1 want n hn (by omega) o (by omega) e1 Rd C
   by_cases e2:lf=want
   ·by_cases e3:t=last+1
    ·rw [if_neg (by simp [e1,e2,e3];omega)]
     have hp:=c5 (.inl (by omega))
     by_cases e4:lf<=46
     ·rw [if_pos e4]
      have:=on_d nn fu rm m p at_ last h0 (by omega) _ t lf pt hp c3 c1 c2 hl hl1 want n hn (by omega) o (by omega) e4 e2 e3 Rd C
      rw [this];simp only [oR];rw [List.length_append,List.length_take,Nat.min_eq_left (by omega)]
     ·rw [if_neg e4]
      subst e2 e3;refine on_c nn fu rm m p at_ last h0 (by omega) _ lf pt hp c3 hl (by omega) n hn (by omega) o (by omega) (by omega) (by omega) Rd C _ ?_
      have ih:=one_loop nn rm m p at_ h0 h1 hB R k fu (n+1) (lf-46) (last+1) (o++pt) (by omega) (by omega) (by omega) (by omega) (by omega) (by omega) (by omega) (by rw [List.length_append];omega)
      rw [List.length_append,hp] at ih;exact ih
    ·rw [if_pos (.inr (.inr (.inr e3)))]
     exact on_t nn fu rm m p at_ last h0 (by omega) _ t lf pt c3 c1 c2 hl hl1 want n hn (by omega) o (by omega) (by omega) e2 e3 Rd C
   ·rw [if_pos (.inr (.inr (.inl e2)))]
    exact on_w nn fu rm m p at_ last h0 (by omega) _ t lf pt c3 c1 c2 hl hl1 want n hn (by omega) o (by omega) (by omega) e2 Rd C
def oneV:Option (List Int × Int × Int)->LV
 | none=>.tup [.isl 1 [],.int .i64 0,.int .i64 0]
 | some (o,c,s)=>.tup [.isl 1 (bys o),.int .i64 c,.int .i64 s]
theorem one_any(n:Nat)(hn:300<=n)(rm:Int)(m:ML)(p:PL)(hp:p.length<=1000000)(ho:okP p)(at_ last:Int)(h0:0<=at_)(h1:at_<=1073741000)(hB:∀ a,byB (rd m p a))(hl:0<=last)(hl1:last<=1152921504606846976):
  Zd prog C0 (Z3 prog C0 (n+80)) (n+80) 53 [.ptr 0 0,.int .i64 at_,.int .i64 last] ⟨1,[(0,dO rm m p)]⟩=some (oneV (Xs (rd m p) at_ last),⟨1,[(0,dO rm m p)]⟩):=by
 have R:∀ a,0<=a->a<=1073741823->RdF rm m p a (rd m p a):=fun a a0 a1 k=>dread_ok k rm m p a a0 (by omega) hp ho
 have key:∀ r,Xs (rd m p) at_ last=r->Z2 prog C0 (n+80) 53 0 1 (n+80) (oE at_ last 0 0 .nils) (oS0 rm m p)=some (oR rm m p r)->Zd prog C0 (Z3 prog C0 (n+80)) (n+80) 53 [.ptr 0 0,.int .i64 at_,.int .i64 last] ⟨1,[(0,dO rm m p)]⟩=some (oneV r,⟨1,[(0,dO rm m p)]⟩):=by
  intro r hr L
  match r,L with
  | none,L=>exact one_none n rm m p at_ last L
  | some (o,c,s),L=>exact one_some n rm m p at_ last c s o o.length (by rw [<- bys_length o,List.take_length]) (Nat.le_refl _) L
 refine key _ rfl ?_
 have C:=fun i=>cell_any i (rd_length m p at_) (hB at_)
 have Rd:=R at_ (by omega) (by omega)
 obtain ⟨c1,c2,c3,c4,c5⟩:=cellS_ok (rd_length m p at_) (hB at_);unfold Xs;simp only;generalize hc:Y9 (rd m p at_)=c at *;obtain ⟨t,g,lf,pt⟩:=c
 simp only at C c1 c2 c3 c4 c5 ⊢
 cases g with
 | false =>
  rw [if_pos (.inl rfl)];exact o0_g n (n+79) rm m p at_ last h0 (by omega) _ t lf pt c3 c1 c2 hl hl1 Rd C
 | true =>
  by_cases e1:16448<lf
  ·rw [if_pos (.inr (.inl e1))]
   exact o0_m n (n+79) rm m p at_ last h0 (by omega) _ t lf pt c3 c1 c2 hl hl1 e1 Rd C
  by_cases e2:t<=last
  ·rw [if_pos (.inr (.inr e2))]
   exact o0_t n (n+79) rm m p at_ last h0 (by omega) _ t lf pt c3 c1 c2 hl hl1 (by omega) e2 Rd C
  rw [if_neg (by simp [e2];omega)]
  have hp46:=c5 (.inr rfl)
  by_cases e4:lf<=46
  ·rw [if_pos e4]
   have:=o0_d n (n+79) rm m p at_ last h0 (by omega) _ t lf pt hp46 c3 c1 c2 hl hl1 e4 (by omega) Rd C
   rw [this];simp only [oR];rw [List.length_take,Nat.min_eq_left (by omega)]
  ·rw [if_neg e4]
   refine o0_c n (n+79) rm m p at_ last h0 (by omega) _ t lf pt hp46 c3 c1 c2 hl hl1 (by omega) (by omega) (by omega) Rd C _ ?_
   have ih:=one_loop n rm m p at_ h0 h1 hB R 360 (n+79) 1 (lf-46) t pt (by omega) (by omega) (by omega) (by omega) (by omega) c1 c2 (by omega)
   rw [hp46] at ih;exact ih
abbrev OnF(rm:Int)(m:ML)(p:PL)(a last:Int)(r:LV):Prop:=∀ k,300<=k->Zd prog C0 (Z3 prog C0 (k+80)) (k+80) 53 [.ptr 0 0,.int .i64 a,.int .i64 last] ⟨1,[(0,dO rm m p)]⟩=some (r,⟨1,[(0,dO rm m p)]⟩)
def lkL(x:Int × List Int):LV:=.agg [.int .i64 x.1,.isl 1 (bys x.2)]
def Zp(l:ML):List LV:=l.map lkL
@[simp] theorem lksL_length(l:ML):(Zp l).length=l.length:=by simp [Zp]
abbrev chD(base nx st:Int):LObj:=.box 106 [.ptr 0 0,.int .i64 base,.int .i64 nx,.int .i64 st]
abbrev max3(a b c:Int):Int:=if (if a<b+1 then b+1 else a)<c+1 then c+1 else if a<b+1 then b+1 else a
abbrev opE(base last:Int)(l:LV):LEnv:=[.ptr 0 0,.int i64 base,.any,.any,.any,.any,.any,.any,.any,.ptr 1 0,l,.int i64 last,.any,.any,.any,.any,.any,.any,.any,.any,.any,.any,.any,.any,.any,.any,.any,.any,.any,.any,.any,.any,.any,.any,.any,.any,.any,.any,.any,.any,.any,.any,.any,.any,.any,.any,.any,.any,.any,.any,.any,.any,.any,.any,.any,.any,.any,.any,.any,.any,.any,.any,.any,.any,.any,.any,.any,.any,.any,.any,.any,.any,.any,.any,.any,.any,.any,.any,.any,.any,.any,.any,.any,.any,.any,.any,.any,.any,.any,.any,.any,.any,.any,.any,.any,.any,.any,.any,.any,.any,.any,.any,.any,.any,.any,.any,.any,.any,.any,.any,.any,.any]
abbrev opS0(rm:Int)(m:ML)(p:PL)(base nx st:Int):St:=⟨2,[(0,dO rm m p),(1,chD base nx st)]⟩
abbrev opS(rm:Int)(m:ML)(p:PL)(base nx st:Int)(l:List LV):St:=⟨3,[(0,dO rm m p),(1,chD base nx st),(2,.row 64 2 l)]⟩
abbrev opG(c:Nat)(base i:Int)(n:Nat)(cs:List LV)(l:LV):LEnv:=[.any,.int i64 base,.any,.any,.any,.any,.any,.any,.any,.ptr c 0,l,.any,.any,.any,.any,.any,.any,.any,.any,.any,.any,.any,.any,.any,.any,.any,.any,.any,.any,.any,.any,.any,.any,.any,.any,.any,.any,.any,.any,.any,.any,.any,.any,.any,.any,.any,.any,.any,.any,.any,.any,.any,.any,.any,.any,.any,.any,.any,.any,.any,.any,.any,.any,.any,.any,.any,.any,.any,.any,.any,.any,.any,.any,.any,.any,.any,.any,.any,.any,.any,.isl 2 cs,.int .i64 n,.int i64 i,.any,.any,.any,.any,.any,.any,.any,.any,.any,.any,.any,.any,.any,.any,.any,.any,.any,.any,.any,.any,.any,.any,.any,.any,.any,.any,.any,.any,.any]
abbrev opH(c:Nat)(l:LV):LEnv:=[.any,.any,.any,.any,.any,.any,.any,.any,.any,.ptr c 0,l,.any,.any,.any,.any,.any,.any,.any,.any,.any,.any,.any,.any,.any,.any,.any,.any,.any,.any,.any,.any,.any,.any,.any,.any,.any,.any,.any,.any,.any,.any,.any,.any,.any,.any,.any,.any,.any,.any,.any,.any,.any,.any,.any,.any,.any,.any,.any,.any,.any,.any,.any,.any,.any,.any,.any,.any,.any,.any,.any,.any,.any,.any,.any,.any,.any,.any,.any,.any,.any,.any,.any,.any,.any,.any,.any,.any,.any,.any,.any,.any,.any,.any,.any,.any,.any,.any,.any,.any,.any,.any,.any,.any,.any,.any,.any,.any,.any,.any,.any,.any,.any]
abbrev opT0(rm:Int)(m:ML)(p:PL)(base nx st:Int):St:=⟨4,[(0,.box 77 [.int .i64 rm,.map 1,.sl 2 2 0 p.length none]),(1,.map .i64 (Zm m)),(2,.row 88 2 (Zg p)),(3,chD base nx st)]⟩
abbrev opT(rm:Int)(m:ML)(p:PL)(base nx st:Int)(l:List LV):St:=⟨5,[(0,.box 77 [.int .i64 rm,.map 1,.sl 2 2 0 p.length none]),(1,.map .i64 (Zm m)),(2,.row 88 2 (Zg p)),(3,chD base nx st),(4,.row 64 2 l)]⟩
theorem eight_any(n:Nat){b:List Int}(hb:8<=b.length):Zd prog C0 (Z3 prog C0 (n+20)) (n+20) 55 [.isl 1 (bys b)] ⟨0,[]⟩=some (.agg (bys (b.take 8)),⟨0,[]⟩):=by
 match b,hb with
 | a0::a1::a2::a3::a4::a5::a6::a7::r,_=>exact g2_eight n a0 a1 a2 a3 a4 a5 a6 a7 r
theorem op_nx(n fu:Nat)(hn:400<=n)(rm:Int)(m:ML)(p:PL)(base nx last:Int)(h0:0<=nx)(h1:nx<=1073740000)(c s:Int)(c0:0<=c)(c1:c<=1000)(o:List Int)(ls:ML)(hls:ls.length<=100000)(O:OnF rm m p nx last (oneV none)):
  Z2 prog C0 (n+100) 28 0 1 (fu+1) (opE base last .nils) (opS0 rm m p base nx 0)=some (.exit 0,opE base last .nils,(opS0 rm m p base nx 0)):=by
 have f1:=O (n+19) (by omega)
 exact dlp (fun h=>ai (f1)<|h) (.i (.k (.s (.r [.a,.a,.a,.a,.a,.a,.f (rOf f1)]) (.a))) (.a)) (by kernel_rfl)
theorem op_ne(n fu:Nat)(hn:400<=n)(rm:Int)(m:ML)(p:PL)(base nx last:Int)(h0:0<=nx)(h1:nx<=1073740000)(c s:Int)(c0:0<=c)(c1:c<=1000)(o:List Int)(ls:ML)(hls:ls.length<=100000)(O:OnF rm m p nx last (oneV (some ([],c,s))))(hc:1<=c)(r:LX × LEnv × St)(hr:Z2 prog C0 (n+100) 28 0 1 fu (opE base s .nils) (opS0 rm m p base (nx+c) 0)=some r):
  Z2 prog C0 (n+100) 28 0 1 (fu+1) (opE base last .nils) (opS0 rm m p base nx 0)=some r:=by
 have f1:=O (n+19) (by omega)
 have f2:decide (c=0)=false:=by simp;omega
 have f3:LV.int i64 (IntKind.wrap i64 (nx+c))=LV.int i64 (nx+c):=by simp (disch:=omega)
 have f4:=hr;exact dlp (fun h=>ai (f1)<|ai (congrArg LV.bool f2)<|ai (f3)<|ai (Eq.refl (Zc f4))<|ai (f4)<|h) (.i (.k (.s (.r [.a,.a,.a,.a,.a,.a,.f (rOf f1)]) (.s (.s (.a) (.b false (.a))) (.s (.a) (.r [.a,.a,.a,.a,.a,.a,.v (vOf f3) (.a)]))))) (.h [] (eOf f4) (Y2 f4) (rOf f4))) (by kernel_rfl)
theorem op_nr(n fu:Nat)(hn:400<=n)(rm:Int)(m:ML)(p:PL)(base nx last:Int)(h0:0<=nx)(h1:nx<=1073740000)(c s:Int)(c0:0<=c)(c1:c<=1000)(o:List Int)(ls:ML)(hls:ls.length<=100000)(O:OnF rm m p nx last (oneV (some (o,c,s))))(hc:1<=c)(hc2:0<o.length)(r:LX × LEnv × St)(hr:Z2 prog C0 (n+100) 28 0 1 fu (opE base s (.sl 2 2 0 1 none)) (opS rm m p base (nx+c) 0 (Zp [(nx,o)]))=some r):
  Z2 prog C0 (n+100) 28 0 1 (fu+1) (opE base last .nils) (opS0 rm m p base nx 0)=some r:=by
 skip
 have f1:=O (n+19) (by omega)
 have f2:decide (c=0)=false:=by simp;omega
 have f3:decide (0<((bys o).length:Int))=true:=by simp;omega
 have f4:LV.int i64 (IntKind.wrap i64 (nx+c))=LV.int i64 (nx+c):=by simp (disch:=omega)
 have f5:LObj.row 64 2 (List.take 1 (List.drop 0 (List.set [.agg [.int i64 0,.nils]] 0 (LV.agg [.int i64 nx,.isl 1 (bys o)]))))=LObj.row 64 2 [.agg [.int i64 nx,.isl 1 (bys o)]]:=by simp
 have f6:=hr;exact dlp (fun h=>ai (f1)<|ai (congrArg LV.bool f2)<|ai (congrArg LV.bool f3)<|ai (f4)<|ai (congrArg some f5)<|ai (Eq.refl (Zc f6))<|ai (f6)<|h) (.i (.k (.s (.r [.a,.a,.a,.a,.a,.a,.f (rOf f1)]) (.s (.s (.a) (.b false (.a))) (.s (.s (.a) (.b true (.a))) (.r [.a,.a,.a,.a,.a,.a,.v (vOf f4) (.a)]))))) (.h [.x 2 (vOf f5)] (eOf f6) (Y2 f6) (rOf f6))) (by kernel_rfl)
theorem op_sx(n fu:Nat)(hn:400<=n)(rm:Int)(m:ML)(p:PL)(base nx last:Int)(h0:0<=nx)(h1:nx<=1073740000)(c s:Int)(c0:0<=c)(c1:c<=1000)(o:List Int)(ls:ML)(hls:ls.length<=100000)(O:OnF rm m p nx last (oneV none)):
  Z2 prog C0 (n+100) 28 0 1 (fu+1) (opE base last (.sl 2 2 0 ls.length none)) (opS rm m p base nx 0 (Zp ls))=some (.exit 0,opE base last (.sl 2 2 0 ls.length none),(opS rm m p base nx 0 (Zp ls))):=by
 have f1:=O (n+19) (by omega)
 exact dlp (fun h=>ai (f1)<|h) (.i (.k (.s (.r [.a,.a,.a,.a,.a,.a,.f (rOf f1)]) (.a))) (.a)) (by kernel_rfl)
theorem op_se(n fu:Nat)(hn:400<=n)(rm:Int)(m:ML)(p:PL)(base nx last:Int)(h0:0<=nx)(h1:nx<=1073740000)(c s:Int)(c0:0<=c)(c1:c<=1000)(o:List Int)(ls:ML)(hls:ls.length<=100000)(O:OnF rm m p nx last (oneV (some ([],c,s))))(hc:1<=c)(r:LX × LEnv × St)(hr:Z2 prog C0 (n+100) 28 0 1 fu (opE base s (.sl 2 2 0 ls.length none)) (opS rm m p base (nx+c) 0 (Zp ls))=some r):
  Z2 prog C0 (n+100) 28 0 1 (fu+1) (opE base last (.sl 2 2 0 ls.length none)) (opS rm m p base nx 0 (Zp ls))=some r:=by
 have f1:=O (n+19) (by omega)
 have f2:decide (c=0)=false:=by simp;omega
 have f3:LV.int i64 (IntKind.wrap i64 (nx+c))=LV.int i64 (nx+c):=by simp (disch:=omega)
 have f4:=hr;exact dlp (fun h=>ai (f1)<|ai (congrArg LV.bool f2)<|ai (f3)<|ai (Eq.refl (Zc f4))<|ai (f4)<|h) (.i (.k (.s (.r [.a,.a,.a,.a,.a,.a,.f (rOf f1)]) (.s (.s (.a) (.b false (.a))) (.s (.a) (.r [.a,.a,.a,.a,.a,.a,.v (vOf f3) (.a)]))))) (.h [] (eOf f4) (Y2 f4) (rOf f4))) (by kernel_rfl)
theorem op_sr(n fu:Nat)(hn:400<=n)(rm:Int)(m:ML)(p:PL)(base nx last:Int)(h0:0<=nx)(h1:nx<=1073740000)(c s:Int)(c0:0<=c)(c1:c<=1000)(o:List Int)(ls:ML)(hls:ls.length<=100000)(O:OnF rm m p nx last (oneV (some (o,c,s))))(hc:1<=c)(hc2:0<o.length)(r:LX × LEnv × St)(hr:Z2 prog C0 (n+100) 28 0 1 fu (opE base s (.sl 2 2 0 (ls.length+1) none)) (opS rm m p base (nx+c) 0 (Zp (ls++[(nx,o)])))=some r):
  Z2 prog C0 (n+100) 28 0 1 (fu+1) (opE base last (.sl 2 2 0 ls.length none)) (opS rm m p base nx 0 (Zp ls))=some r:=by
 have e:Zp (ls++[(nx,o)])=Zp ls++[.agg [.int .i64 nx,.isl 1 (bys o)]]:=by simp [Zp,lkL]
 rw [e] at hr;have f1:=O (n+19) (by omega)
 have f2:decide (c=0)=false:=by simp;omega
 have f3:decide (0<((bys o).length:Int))=true:=by simp;omega
 have f4:1<=1:=by omega
 have f5:List.length (Zp ls)=List.length ls/\(List.length ls+1)*32<=140737488355328:=by simp;omega
 have f6:LObj.row 64 2 (Zp ls++List.take 1 (List.drop 0 (List.set [.agg [.int i64 0,.nils]] 0 (LV.agg [.int i64 nx,.isl 1 (bys o)]))))=LObj.row 64 2 (Zp ls++[.agg [.int i64 nx,.isl 1 (bys o)]]):=by simp
 have f7:LObj.row 64 2 (List.set [.agg [.int i64 0,.nils]] 0 (LV.agg [.int i64 nx,.isl 1 (bys o)]))=LObj.row 64 2 [.agg [.int i64 nx,.isl 1 (bys o)]]:=by simp
 have f8:LV.int i64 (IntKind.wrap i64 (nx+c))=LV.int i64 (nx+c):=by simp (disch:=omega)
 have f9:=hr;exact dlp (fun h=>ai (f1)<|ai (congrArg LV.bool f2)<|ai (congrArg LV.bool f3)<|ai (f4)<|ai (f5)<|ai (congrArg some f6)<|ai (congrArg some f7)<|ai (f8)<|ai (Eq.refl (Zc f9))<|ai (f9)<|h) (.i (.k (.s (.r [.a,.a,.a,.a,.a,.a,.f (rOf f1)]) (.s (.s (.a) (.b false (.a))) (.s (.s (.a) (.b true (.r [.a,.a,.a,.a,.a,.a,.a,.a,.x 3 (vOf f7) (.x 4 (vOf f6) (.q))]))) (.r [.a,.a,.a,.a,.a,.a,.v (vOf f8) (.a)]))))) (.h [] (eOf f9) (Y2 f9) (rOf f9))) (by kernel_rfl)
theorem zq7_13(a0:ML):decide ((a0.length:Int)<(a0.length:Int))=false:=by simp
theorem op2_nx(n fu:Nat)(hn:400<=n)(rm:Int)(m:ML)(p:PL)(base nx st:Int)(q:ML)(hcs:q.length<=100000)(ls:ML)(hls:ls.length<=100000)(i:Int)(i0:0<=i)(a:Int)(b:List Int)(hb:b.length=64):
  Z2 prog C0 (n+100) 28 1 1 (fu+1) (opG 1 base q.length q.length (Zb q) .nils) (opS0 rm m p base nx st)=some (.exit 2,opH 1 .nils,(opS0 rm m p base nx st)):=by
 have f1:=zq7_13 q;exact dlp (fun h=>ai (congrArg LV.bool f1)<|h) (.i (.s (.a) (.s (.b false (.a)) .a)) (.a)) (by kernel_rfl)
theorem op2_ns(n fu:Nat)(hn:400<=n)(rm:Int)(m:ML)(p:PL)(base nx st:Int)(q:ML)(hcs:q.length<=100000)(ls:ML)(hls:ls.length<=100000)(i:Int)(i0:0<=i)(a:Int)(b:List Int)(hb:b.length=64)(hx:(Zb q)[i.toNat]? = some (.agg [.int .i64 a,.isl 1 (bys b)]))(hi:i<(q.length:Int))(ha:a<base)(r:LX × LEnv × St)(hr:Z2 prog C0 (n+100) 28 1 1 fu (opG 1 base (i+1) q.length (Zb q) .nils) (opS0 rm m p base nx st)=some r):
  Z2 prog C0 (n+100) 28 1 1 (fu+1) (opG 1 base i q.length (Zb q) .nils) (opS0 rm m p base nx st)=some r:=by
 have f1:decide (i<(q.length:Int))=true:=by simp;omega
 have f2:(Zb q)[i.toNat]? = some (LV.agg [.int i64 a,.isl 1 (bys b)]):=hx;have f3:0<=i/\i<((Zb q).length:Int):=by simp;omega
 have f4:decide (base<=a)=false:=by simp;omega
 have f5:LV.int i64 (IntKind.wrap i64 (i+1))=LV.int i64 (i+1):=by simp (disch:=omega)
 have f6:=hr;exact dlp (fun h=>ai (congrArg LV.bool f1)<|ai (f3)<|ai (f2)<|ai (congrArg LV.bool f4)<|ai (f5)<|ai (Eq.refl (Zc f6))<|ai (f6)<|h) (.i (.s (.a) (.s (.b true (.a)) (.s (.k (.s (.r [.e (rOf f2)]) (.s (.a) (.b false (.a))))) (.r [.v (vOf f5) (.a)])))) (.h [] (eOf f6) (Y2 f6) (rOf f6))) (by kernel_rfl)
theorem zq7_14(a0:Int)(a1:Int)(a2:Int):LV.int i64 (if true=true then if (if true=true then if a0<a1+1 then a1+1 else a0 else if a1+1<a0 then a1+1 else a0)<a2+1 then a2+1 else if true=true then if a0<a1+1 then a1+1 else a0 else if a1+1<a0 then a1+1 else a0 else if a2+1<if true=true then if a0<a1+1 then a1+1 else a0 else if a1+1<a0 then a1+1 else a0 then a2+1 else if true=true then if a0<a1+1 then a1+1 else a0 else if a1+1<a0 then a1+1 else a0)=LV.int i64 (if (if a0<a1+1 then a1+1 else a0)<a2+1 then a2+1 else if a0<a1+1 then a1+1 else a0):=by simp
theorem op2_nm(n fu:Nat)(hn:400<=n)(rm:Int)(m:ML)(p:PL)(base nx st:Int)(q:ML)(hcs:q.length<=100000)(ls:ML)(hls:ls.length<=100000)(i:Int)(i0:0<=i)(a:Int)(a0 a1 a2 a3 a4 a5 a6 a7 z0 z1 z2 z3 z4 z5 z6 z7:Int)(w:List Int)(hw:w.length=56)(hx:(Zb q)[i.toNat]? = some (.agg [.int .i64 a,.isl 1 (bys (a0::a1::a2::a3::a4::a5::a6::a7::w))]))(hi:i<(q.length:Int))(ha:base<=a)(x y:Int)(x0:0<=x)(x1:x<=1152921504606846976)(y0:0<=y)(y1:y<=1152921504606846976)(A:∀ k,Zd prog C0 (Z3 prog C0 (k+20)) (k+20) 55 [.isl 1 (bys (a0::a1::a2::a3::a4::a5::a6::a7::w))] ⟨0,[]⟩=some (.agg (bys [a0,a1,a2,a3,a4,a5,a6,a7]),⟨0,[]⟩))(B:∀ k,Zd prog C0 (Z3 prog C0 (k+20)) (k+20) 55 [.isl 1 (bys (w.drop 48))] ⟨0,[]⟩=some (.agg (bys [z0,z1,z2,z3,z4,z5,z6,z7]),⟨0,[]⟩))(N:∀ k,Zd prog C0 (Z3 prog C0 (k+20)) (k+20) 54 [.agg (bys [a0,a1,a2,a3,a4,a5,a6,a7])] ⟨0,[]⟩=some (.int .i64 x,⟨0,[]⟩))(M:∀ k,Zd prog C0 (Z3 prog C0 (k+20)) (k+20) 54 [.agg (bys [z0,z1,z2,z3,z4,z5,z6,z7])] ⟨0,[]⟩=some (.int .i64 y,⟨0,[]⟩))(r:LX × LEnv × St)(hr:Z2 prog C0 (n+100) 28 1 1 fu (opG 3 base (i+1) q.length (Zb q) .nils) (opT0 rm m p base nx (max3 st x y))=some r):
  Z2 prog C0 (n+100) 28 1 1 (fu+1) (opG 1 base i q.length (Zb q) .nils) (opS0 rm m p base nx st)=some r:=by
 have f1:decide (i<(q.length:Int))=true:=by simp;omega
 have f2:(Zb q)[i.toNat]? = some (LV.agg [.int i64 a,.isl 1 (bys (a0::a1::a2::a3::a4::a5::a6::a7::w))]):=hx;have f3:0<=i/\i<((Zb q).length:Int):=by simp;omega
 have f4:decide (base<=a)=true:=by simp;omega
 have f5:LV.bool (decide (i<(q.length:Int)))=LV.bool true:=by simp;omega
 have f6:LV.bool (decide (base<=a))=LV.bool true:=by simp;omega
 have f7:=zq7_1 m;have f8:=zq7_2 rm p 3 4;have f9:=A (n+79);have f10:=N (n+79);have f11:LV.int i64 (IntKind.wrap i64 (x+1))=LV.int i64 (x+1):=by simp (disch:=omega)
 have f12:(0:Int)<=(56:Int)/\(56:Int)<=Option.getD none ((bys (a0::a1::a2::a3::a4::a5::a6::a7::w)).length:Int)/\Option.getD none ((bys (a0::a1::a2::a3::a4::a5::a6::a7::w)).length:Int)<=((bys (a0::a1::a2::a3::a4::a5::a6::a7::w)).length:Int):=by simp;omega
 have f13:LV.isl 1 (List.drop 56 (List.take (Int.toNat (Option.getD none ((bys (a0::a1::a2::a3::a4::a5::a6::a7::w)).length:Int))) (bys (a0::a1::a2::a3::a4::a5::a6::a7::w))))=LV.isl 1 (bys (List.drop 48 w)):=by simp (disch:=first | omega | (simp;omega))
 have f14:=B (n+79);have f15:=M (n+79);have f16:LV.int i64 (IntKind.wrap i64 (y+1))=LV.int i64 (y+1):=by simp (disch:=omega)
 have f17:=zq7_14 st x y;have f18:LV.int i64 (IntKind.wrap i64 (i+1))=LV.int i64 (i+1):=by simp (disch:=omega)
 have f19:=hr;exact dlp (fun h=>ai (congrArg LV.bool f1)<|ai (f3)<|ai (f2)<|ai (congrArg LV.bool f4)<|ai (f5)<|ai (f6)<|ai (congrArg some f7)<|ai (congrArg some f8)<|ai (f9)<|ai (f10)<|ai (f11)<|ai (f12)<|ai (f13)<|ai (f14)<|ai (f15)<|ai (f16)<|ai (f17)<|ai (f5)<|ai (f6)<|ai (f18)<|ai (Eq.refl (Zc f19))<|ai (f19)<|h) (.i (.s (.a) (.s (.b true (.a)) (.s (.k (.s (.r [.e (rOf f2)]) (.s (.a) (.b true (.d [.y 83 (vOf f5),.y 89 (vOf f6),.x 3 (vOf f7),.x 0 (vOf f8)] [.a,.a,.a,.a,.a,.a,.a,.f (rOf f9),.f (rOf f10),.v (vOf f11) (.a),.a,.a,.v (vOf f13) (.q),.f (rOf f14),.f (rOf f15),.v (vOf f16) (.a),.v (vOf f17) (.a)] [] [.z [.y 83 (vOf f5),.y 89 (vOf f6)] (.a)]))))) (.r [.v (vOf f18) (.a)])))) (.h [] (eOf f19) (Y2 f19) (rOf f19))) (by kernel_rfl)
theorem op2_sx(n fu:Nat)(hn:400<=n)(rm:Int)(m:ML)(p:PL)(base nx st:Int)(q:ML)(hcs:q.length<=100000)(ls:ML)(hls:ls.length<=100000)(i:Int)(i0:0<=i)(a:Int)(b:List Int)(hb:b.length=64):
  Z2 prog C0 (n+100) 28 1 1 (fu+1) (opG 1 base q.length q.length (Zb q) (.sl 2 2 0 ls.length none)) (opS rm m p base nx st (Zp ls))=some (.exit 2,opH 1 (.sl 2 2 0 ls.length none),(opS rm m p base nx st (Zp ls))):=by
 have f1:=zq7_13 q;exact dlp (fun h=>ai (congrArg LV.bool f1)<|h) (.i (.s (.a) (.s (.b false (.a)) .a)) (.a)) (by kernel_rfl)
theorem op2_ss(n fu:Nat)(hn:400<=n)(rm:Int)(m:ML)(p:PL)(base nx st:Int)(q:ML)(hcs:q.length<=100000)(ls:ML)(hls:ls.length<=100000)(i:Int)(i0:0<=i)(a:Int)(b:List Int)(hb:b.length=64)(hx:(Zb q)[i.toNat]? = some (.agg [.int .i64 a,.isl 1 (bys b)]))(hi:i<(q.length:Int))(ha:a<base)(r:LX × LEnv × St)(hr:Z2 prog C0 (n+100) 28 1 1 fu (opG 1 base (i+1) q.length (Zb q) (.sl 2 2 0 ls.length none)) (opS rm m p base nx st (Zp ls))=some r):
  Z2 prog C0 (n+100) 28 1 1 (fu+1) (opG 1 base i q.length (Zb q) (.sl 2 2 0 ls.length none)) (opS rm m p base nx st (Zp ls))=some r:=by
 have f1:decide (i<(q.length:Int))=true:=by simp;omega
 have f2:(Zb q)[i.toNat]? = some (LV.agg [.int i64 a,.isl 1 (bys b)]):=hx;have f3:0<=i/\i<((Zb q).length:Int):=by simp;omega
 have f4:decide (base<=a)=false:=by simp;omega
 have f5:LV.int i64 (IntKind.wrap i64 (i+1))=LV.int i64 (i+1):=by simp (disch:=omega)
 have f6:=hr;exact dlp (fun h=>ai (congrArg LV.bool f1)<|ai (f3)<|ai (f2)<|ai (congrArg LV.bool f4)<|ai (f5)<|ai (Eq.refl (Zc f6))<|ai (f6)<|h) (.i (.s (.a) (.s (.b true (.a)) (.s (.k (.s (.r [.e (rOf f2)]) (.s (.a) (.b false (.a))))) (.r [.v (vOf f5) (.a)])))) (.h [] (eOf f6) (Y2 f6) (rOf f6))) (by kernel_rfl)
theorem op2_sm(n fu:Nat)(hn:400<=n)(rm:Int)(m:ML)(p:PL)(base nx st:Int)(q:ML)(hcs:q.length<=100000)(ls:ML)(hls:ls.length<=100000)(i:Int)(i0:0<=i)(a:Int)(a0 a1 a2 a3 a4 a5 a6 a7 z0 z1 z2 z3 z4 z5 z6 z7:Int)(w:List Int)(hw:w.length=56)(hx:(Zb q)[i.toNat]? = some (.agg [.int .i64 a,.isl 1 (bys (a0::a1::a2::a3::a4::a5::a6::a7::w))]))(hi:i<(q.length:Int))(ha:base<=a)(x y:Int)(x0:0<=x)(x1:x<=1152921504606846976)(y0:0<=y)(y1:y<=1152921504606846976)(A:∀ k,Zd prog C0 (Z3 prog C0 (k+20)) (k+20) 55 [.isl 1 (bys (a0::a1::a2::a3::a4::a5::a6::a7::w))] ⟨0,[]⟩=some (.agg (bys [a0,a1,a2,a3,a4,a5,a6,a7]),⟨0,[]⟩))(B:∀ k,Zd prog C0 (Z3 prog C0 (k+20)) (k+20) 55 [.isl 1 (bys (w.drop 48))] ⟨0,[]⟩=some (.agg (bys [z0,z1,z2,z3,z4,z5,z6,z7]),⟨0,[]⟩))(N:∀ k,Zd prog C0 (Z3 prog C0 (k+20)) (k+20) 54 [.agg (bys [a0,a1,a2,a3,a4,a5,a6,a7])] ⟨0,[]⟩=some (.int .i64 x,⟨0,[]⟩))(M:∀ k,Zd prog C0 (Z3 prog C0 (k+20)) (k+20) 54 [.agg (bys [z0,z1,z2,z3,z4,z5,z6,z7])] ⟨0,[]⟩=some (.int .i64 y,⟨0,[]⟩))(r:LX × LEnv × St)(hr:Z2 prog C0 (n+100) 28 1 1 fu (opG 3 base (i+1) q.length (Zb q) (.sl 2 4 0 ls.length none)) (opT rm m p base nx (max3 st x y) (Zp ls))=some r):
  Z2 prog C0 (n+100) 28 1 1 (fu+1) (opG 1 base i q.length (Zb q) (.sl 2 2 0 ls.length none)) (opS rm m p base nx st (Zp ls))=some r:=by
 have f1:decide (i<(q.length:Int))=true:=by simp;omega
 have f2:(Zb q)[i.toNat]? = some (LV.agg [.int i64 a,.isl 1 (bys (a0::a1::a2::a3::a4::a5::a6::a7::w))]):=hx;have f3:0<=i/\i<((Zb q).length:Int):=by simp;omega
 have f4:decide (base<=a)=true:=by simp;omega
 have f5:LV.bool (decide (i<(q.length:Int)))=LV.bool true:=by simp;omega
 have f6:LV.bool (decide (base<=a))=LV.bool true:=by simp;omega
 have f7:=zq7_1 m;have f8:=zq7_2 rm p 4 5;have f9:=A (n+79);have f10:=N (n+79);have f11:LV.int i64 (IntKind.wrap i64 (x+1))=LV.int i64 (x+1):=by simp (disch:=omega)
 have f12:(0:Int)<=(56:Int)/\(56:Int)<=Option.getD none ((bys (a0::a1::a2::a3::a4::a5::a6::a7::w)).length:Int)/\Option.getD none ((bys (a0::a1::a2::a3::a4::a5::a6::a7::w)).length:Int)<=((bys (a0::a1::a2::a3::a4::a5::a6::a7::w)).length:Int):=by simp;omega
 have f13:LV.isl 1 (List.drop 56 (List.take (Int.toNat (Option.getD none ((bys (a0::a1::a2::a3::a4::a5::a6::a7::w)).length:Int))) (bys (a0::a1::a2::a3::a4::a5::a6::a7::w))))=LV.isl 1 (bys (List.drop 48 w)):=by simp (disch:=first | omega | (simp;omega))
 have f14:=B (n+79);have f15:=M (n+79);have f16:LV.int i64 (IntKind.wrap i64 (y+1))=LV.int i64 (y+1):=by simp (disch:=omega)
 have f17:=zq7_14 st x y;have f18:LV.int i64 (IntKind.wrap i64 (i+1))=LV.int i64 (i+1):=by simp (disch:=omega)
 have f19:=hr;exact dlp (fun h=>ai (congrArg LV.bool f1)<|ai (f3)<|ai (f2)<|ai (congrArg LV.bool f4)<|ai (f5)<|ai (f6)<|ai (congrArg some f7)<|ai (congrArg some f8)<|ai (f9)<|ai (f10)<|ai (f11)<|ai (f12)<|ai (f13)<|ai (f14)<|ai (f15)<|ai (f16)<|ai (f17)<|ai (f5)<|ai (f6)<|ai (f18)<|ai (Eq.refl (Zc f19))<|ai (f19)<|h) (.i (.s (.a) (.s (.b true (.a)) (.s (.k (.s (.r [.e (rOf f2)]) (.s (.a) (.b true (.d [.y 83 (vOf f5),.y 89 (vOf f6),.x 4 (vOf f7),.x 0 (vOf f8)] [.a,.a,.a,.a,.a,.a,.a,.f (rOf f9),.f (rOf f10),.v (vOf f11) (.a),.a,.a,.v (vOf f13) (.q),.f (rOf f14),.f (rOf f15),.v (vOf f16) (.a),.v (vOf f17) (.a)] [] [.z [.y 83 (vOf f5),.y 89 (vOf f6)] (.a)]))))) (.r [.v (vOf f18) (.a)])))) (.h [] (eOf f19) (Y2 f19) (rOf f19))) (by kernel_rfl)
theorem op2_nox(n fu:Nat)(hn:400<=n)(rm:Int)(m:ML)(p:PL)(base nx st:Int)(q:ML)(hcs:q.length<=100000)(ls:ML)(hls:ls.length<=100000)(i:Int)(i0:0<=i)(a:Int)(b:List Int)(hb:b.length=64):
  Z2 prog C0 (n+100) 28 1 1 (fu+1) (opG 3 base q.length q.length (Zb q) .nils) (opT0 rm m p base nx st)=some (.exit 2,opH 3 .nils,(opT0 rm m p base nx st)):=by
 have f1:=zq7_13 q;exact dlp (fun h=>ai (congrArg LV.bool f1)<|h) (.i (.s (.a) (.s (.b false (.a)) .a)) (.a)) (by kernel_rfl)
theorem op2_nos(n fu:Nat)(hn:400<=n)(rm:Int)(m:ML)(p:PL)(base nx st:Int)(q:ML)(hcs:q.length<=100000)(ls:ML)(hls:ls.length<=100000)(i:Int)(i0:0<=i)(a:Int)(b:List Int)(hb:b.length=64)(hx:(Zb q)[i.toNat]? = some (.agg [.int .i64 a,.isl 1 (bys b)]))(hi:i<(q.length:Int))(ha:a<base)(r:LX × LEnv × St)(hr:Z2 prog C0 (n+100) 28 1 1 fu (opG 3 base (i+1) q.length (Zb q) .nils) (opT0 rm m p base nx st)=some r):
  Z2 prog C0 (n+100) 28 1 1 (fu+1) (opG 3 base i q.length (Zb q) .nils) (opT0 rm m p base nx st)=some r:=by
 have f1:decide (i<(q.length:Int))=true:=by simp;omega
 have f2:(Zb q)[i.toNat]? = some (LV.agg [.int i64 a,.isl 1 (bys b)]):=hx;have f3:0<=i/\i<((Zb q).length:Int):=by simp;omega
 have f4:decide (base<=a)=false:=by simp;omega
 have f5:LV.int i64 (IntKind.wrap i64 (i+1))=LV.int i64 (i+1):=by simp (disch:=omega)
 have f6:=hr;exact dlp (fun h=>ai (congrArg LV.bool f1)<|ai (f3)<|ai (f2)<|ai (congrArg LV.bool f4)<|ai (f5)<|ai (Eq.refl (Zc f6))<|ai (f6)<|h) (.i (.s (.a) (.s (.b true (.a)) (.s (.k (.s (.r [.e (rOf f2)]) (.s (.a) (.b false (.a))))) (.r [.v (vOf f5) (.a)])))) (.h [] (eOf f6) (Y2 f6) (rOf f6))) (by kernel_rfl)
theorem op2_nom(n fu:Nat)(hn:400<=n)(rm:Int)(m:ML)(p:PL)(base nx st:Int)(q:ML)(hcs:q.length<=100000)(ls:ML)(hls:ls.length<=100000)(i:Int)(i0:0<=i)(a:Int)(a0 a1 a2 a3 a4 a5 a6 a7 z0 z1 z2 z3 z4 z5 z6 z7:Int)(w:List Int)(hw:w.length=56)(hx:(Zb q)[i.toNat]? = some (.agg [.int .i64 a,.isl 1 (bys (a0::a1::a2::a3::a4::a5::a6::a7::w))]))(hi:i<(q.length:Int))(ha:base<=a)(x y:Int)(x0:0<=x)(x1:x<=1152921504606846976)(y0:0<=y)(y1:y<=1152921504606846976)(A:∀ k,Zd prog C0 (Z3 prog C0 (k+20)) (k+20) 55 [.isl 1 (bys (a0::a1::a2::a3::a4::a5::a6::a7::w))] ⟨0,[]⟩=some (.agg (bys [a0,a1,a2,a3,a4,a5,a6,a7]),⟨0,[]⟩))(B:∀ k,Zd prog C0 (Z3 prog C0 (k+20)) (k+20) 55 [.isl 1 (bys (w.drop 48))] ⟨0,[]⟩=some (.agg (bys [z0,z1,z2,z3,z4,z5,z6,z7]),⟨0,[]⟩))(N:∀ k,Zd prog C0 (Z3 prog C0 (k+20)) (k+20) 54 [.agg (bys [a0,a1,a2,a3,a4,a5,a6,a7])] ⟨0,[]⟩=some (.int .i64 x,⟨0,[]⟩))(M:∀ k,Zd prog C0 (Z3 prog C0 (k+20)) (k+20) 54 [.agg (bys [z0,z1,z2,z3,z4,z5,z6,z7])] ⟨0,[]⟩=some (.int .i64 y,⟨0,[]⟩))(r:LX × LEnv × St)(hr:Z2 prog C0 (n+100) 28 1 1 fu (opG 3 base (i+1) q.length (Zb q) .nils) (opT0 rm m p base nx (max3 st x y))=some r):
  Z2 prog C0 (n+100) 28 1 1 (fu+1) (opG 3 base i q.length (Zb q) .nils) (opT0 rm m p base nx st)=some r:=by
 have f1:decide (i<(q.length:Int))=true:=by simp;omega
 have f2:(Zb q)[i.toNat]? = some (LV.agg [.int i64 a,.isl 1 (bys (a0::a1::a2::a3::a4::a5::a6::a7::w))]):=hx;have f3:0<=i/\i<((Zb q).length:Int):=by simp;omega
 have f4:decide (base<=a)=true:=by simp;omega
 have f5:=A (n+79);have f6:=N (n+79);have f7:LV.int i64 (IntKind.wrap i64 (x+1))=LV.int i64 (x+1):=by simp (disch:=omega)
 have f8:(0:Int)<=(56:Int)/\(56:Int)<=Option.getD none ((bys (a0::a1::a2::a3::a4::a5::a6::a7::w)).length:Int)/\Option.getD none ((bys (a0::a1::a2::a3::a4::a5::a6::a7::w)).length:Int)<=((bys (a0::a1::a2::a3::a4::a5::a6::a7::w)).length:Int):=by simp;omega
 have f9:LV.isl 1 (List.drop 56 (List.take (Int.toNat (Option.getD none ((bys (a0::a1::a2::a3::a4::a5::a6::a7::w)).length:Int))) (bys (a0::a1::a2::a3::a4::a5::a6::a7::w))))=LV.isl 1 (bys (List.drop 48 w)):=by simp (disch:=first | omega | (simp;omega))
 have f10:=B (n+79);have f11:=M (n+79);have f12:LV.int i64 (IntKind.wrap i64 (y+1))=LV.int i64 (y+1):=by simp (disch:=omega)
 have f13:=zq7_14 st x y;have f14:LV.bool (decide (i<(q.length:Int)))=LV.bool true:=by simp;omega
 have f15:LV.bool (decide (base<=a))=LV.bool true:=by simp;omega
 have f16:LV.int i64 (IntKind.wrap i64 (i+1))=LV.int i64 (i+1):=by simp (disch:=omega)
 have f17:=hr;exact dlp (fun h=>ai (congrArg LV.bool f1)<|ai (f3)<|ai (f2)<|ai (congrArg LV.bool f4)<|ai (f5)<|ai (f6)<|ai (f7)<|ai (f8)<|ai (f9)<|ai (f10)<|ai (f11)<|ai (f12)<|ai (f13)<|ai (f14)<|ai (f15)<|ai (f16)<|ai (Eq.refl (Zc f17))<|ai (f17)<|h) (.i (.s (.a) (.s (.b true (.a)) (.s (.k (.s (.r [.e (rOf f2)]) (.s (.a) (.b true (.d [] [.a,.a,.a,.a,.a,.a,.a,.f (rOf f5),.f (rOf f6),.v (vOf f7) (.a),.a,.a,.v (vOf f9) (.q),.f (rOf f10),.f (rOf f11),.v (vOf f12) (.a),.v (vOf f13) (.a)] [] [.z [.y 83 (vOf f14),.y 89 (vOf f15)] (.a)]))))) (.r [.v (vOf f16) (.a)])))) (.h [] (eOf f17) (Y2 f17) (rOf f17))) (by kernel_rfl)
theorem op2_sox(n fu:Nat)(hn:400<=n)(rm:Int)(m:ML)(p:PL)(base nx st:Int)(q:ML)(hcs:q.length<=100000)(ls:ML)(hls:ls.length<=100000)(i:Int)(i0:0<=i)(a:Int)(b:List Int)(hb:b.length=64):
  Z2 prog C0 (n+100) 28 1 1 (fu+1) (opG 3 base q.length q.length (Zb q) (.sl 2 4 0 ls.length none)) (opT rm m p base nx st (Zp ls))=some (.exit 2,opH 3 (.sl 2 4 0 ls.length none),(opT rm m p base nx st (Zp ls))):=by
 have f1:=zq7_13 q;exact dlp (fun h=>ai (congrArg LV.bool f1)<|h) (.i (.s (.a) (.s (.b false (.a)) .a)) (.a)) (by kernel_rfl)
theorem op2_sos(n fu:Nat)(hn:400<=n)(rm:Int)(m:ML)(p:PL)(base nx st:Int)(q:ML)(hcs:q.length<=100000)(ls:ML)(hls:ls.length<=100000)(i:Int)(i0:0<=i)(a:Int)(b:List Int)(hb:b.length=64)(hx:(Zb q)[i.toNat]? = some (.agg [.int .i64 a,.isl 1 (bys b)]))(hi:i<(q.length:Int))(ha:a<base)(r:LX × LEnv × St)(hr:Z2 prog C0 (n+100) 28 1 1 fu (opG 3 base (i+1) q.length (Zb q) (.sl 2 4 0 ls.length none)) (opT rm m p base nx st (Zp ls))=some r):
  Z2 prog C0 (n+100) 28 1 1 (fu+1) (opG 3 base i q.length (Zb q) (.sl 2 4 0 ls.length none)) (opT rm m p base nx st (Zp ls))=some r:=by
 have f1:decide (i<(q.length:Int))=true:=by simp;omega
 have f2:(Zb q)[i.toNat]? = some (LV.agg [.int i64 a,.isl 1 (bys b)]):=hx;have f3:0<=i/\i<((Zb q).length:Int):=by simp;omega
 have f4:decide (base<=a)=false:=by simp;omega
 have f5:LV.int i64 (IntKind.wrap i64 (i+1))=LV.int i64 (i+1):=by simp (disch:=omega)
 have f6:=hr;exact dlp (fun h=>ai (congrArg LV.bool f1)<|ai (f3)<|ai (f2)<|ai (congrArg LV.bool f4)<|ai (f5)<|ai (Eq.refl (Zc f6))<|ai (f6)<|h) (.i (.s (.a) (.s (.b true (.a)) (.s (.k (.s (.r [.e (rOf f2)]) (.s (.a) (.b false (.a))))) (.r [.v (vOf f5) (.a)])))) (.h [] (eOf f6) (Y2 f6) (rOf f6))) (by kernel_rfl)
theorem op2_som(n fu:Nat)(hn:400<=n)(rm:Int)(m:ML)(p:PL)(base nx st:Int)(q:ML)(hcs:q.length<=100000)(ls:ML)(hls:ls.length<=100000)(i:Int)(i0:0<=i)(a:Int)(a0 a1 a2 a3 a4 a5 a6 a7 z0 z1 z2 z3 z4 z5 z6 z7:Int)(w:List Int)(hw:w.length=56)(hx:(Zb q)[i.toNat]? = some (.agg [.int .i64 a,.isl 1 (bys (a0::a1::a2::a3::a4::a5::a6::a7::w))]))(hi:i<(q.length:Int))(ha:base<=a)(x y:Int)(x0:0<=x)(x1:x<=1152921504606846976)(y0:0<=y)(y1:y<=1152921504606846976)(A:∀ k,Zd prog C0 (Z3 prog C0 (k+20)) (k+20) 55 [.isl 1 (bys (a0::a1::a2::a3::a4::a5::a6::a7::w))] ⟨0,[]⟩=some (.agg (bys [a0,a1,a2,a3,a4,a5,a6,a7]),⟨0,[]⟩))(B:∀ k,Zd prog C0 (Z3 prog C0 (k+20)) (k+20) 55 [.isl 1 (bys (w.drop 48))] ⟨0,[]⟩=some (.agg (bys [z0,z1,z2,z3,z4,z5,z6,z7]),⟨0,[]⟩))(N:∀ k,Zd prog C0 (Z3 prog C0 (k+20)) (k+20) 54 [.agg (bys [a0,a1,a2,a3,a4,a5,a6,a7])] ⟨0,[]⟩=some (.int .i64 x,⟨0,[]⟩))(M:∀ k,Zd prog C0 (Z3 prog C0 (k+20)) (k+20) 54 [.agg (bys [z0,z1,z2,z3,z4,z5,z6,z7])] ⟨0,[]⟩=some (.int .i64 y,⟨0,[]⟩))(r:LX × LEnv × St)(hr:Z2 prog C0 (n+100) 28 1 1 fu (opG 3 base (i+1) q.length (Zb q) (.sl 2 4 0 ls.length none)) (opT rm m p base nx (max3 st x y) (Zp ls))=some r):
  Z2 prog C0 (n+100) 28 1 1 (fu+1) (opG 3 base i q.length (Zb q) (.sl 2 4 0 ls.length none)) (opT rm m p base nx st (Zp ls))=some r:=by
 have f1:decide (i<(q.length:Int))=true:=by simp;omega
 have f2:(Zb q)[i.toNat]? = some (LV.agg [.int i64 a,.isl 1 (bys (a0::a1::a2::a3::a4::a5::a6::a7::w))]):=hx;have f3:0<=i/\i<((Zb q).length:Int):=by simp;omega
 have f4:decide (base<=a)=true:=by simp;omega
 have f5:=A (n+79);have f6:=N (n+79);have f7:LV.int i64 (IntKind.wrap i64 (x+1))=LV.int i64 (x+1):=by simp (disch:=omega)
 have f8:(0:Int)<=(56:Int)/\(56:Int)<=Option.getD none ((bys (a0::a1::a2::a3::a4::a5::a6::a7::w)).length:Int)/\Option.getD none ((bys (a0::a1::a2::a3::a4::a5::a6::a7::w)).length:Int)<=((bys (a0::a1::a2::a3::a4::a5::a6::a7::w)).length:Int):=by simp;omega
 have f9:LV.isl 1 (List.drop 56 (List.take (Int.toNat (Option.getD none ((bys (a0::a1::a2::a3::a4::a5::a6::a7::w)).length:Int))) (bys (a0::a1::a2::a3::a4::a5::a6::a7::w))))=LV.isl 1 (bys (List.drop 48 w)):=by simp (disch:=first | omega | (simp;omega))
 have f10:=B (n+79);have f11:=M (n+79);have f12:LV.int i64 (IntKind.wrap i64 (y+1))=LV.int i64 (y+1):=by simp (disch:=omega)
 have f13:=zq7_14 st x y;have f14:LV.bool (decide (i<(q.length:Int)))=LV.bool true:=by simp;omega
 have f15:LV.bool (decide (base<=a))=LV.bool true:=by simp;omega
 have f16:LV.int i64 (IntKind.wrap i64 (i+1))=LV.int i64 (i+1):=by simp (disch:=omega)
 have f17:=hr;exact dlp (fun h=>ai (congrArg LV.bool f1)<|ai (f3)<|ai (f2)<|ai (congrArg LV.bool f4)<|ai (f5)<|ai (f6)<|ai (f7)<|ai (f8)<|ai (f9)<|ai (f10)<|ai (f11)<|ai (f12)<|ai (f13)<|ai (f14)<|ai (f15)<|ai (f16)<|ai (Eq.refl (Zc f17))<|ai (f17)<|h) (.i (.s (.a) (.s (.b true (.a)) (.s (.k (.s (.r [.e (rOf f2)]) (.s (.a) (.b true (.d [] [.a,.a,.a,.a,.a,.a,.a,.f (rOf f5),.f (rOf f6),.v (vOf f7) (.a),.a,.a,.v (vOf f9) (.q),.f (rOf f10),.f (rOf f11),.v (vOf f12) (.a),.v (vOf f13) (.a)] [] [.z [.y 83 (vOf f14),.y 89 (vOf f15)] (.a)]))))) (.r [.v (vOf f16) (.a)])))) (.h [] (eOf f17) (Y2 f17) (rOf f17))) (by kernel_rfl)
theorem zq7_15(a0:ML):LV.int i64 ((Zb a0).length:Int)=LV.int i64 (a0.length:Int):=by simp
theorem open_n(n:Nat)(rm:Int)(m:ML)(p:PL)(base from_ nx last st:Int)(h0:0<=base)(h1:base<=from_)(h2:from_<=1073741824)(la0:0<=last)(la:last<=1152921504606846976)(ls:ML)(hls:ls.length<=100000)(hm:m.length<=100000)(hT:(Zp ls).take ls.length=Zp ls)(A:Z2 prog C0 (n+100) 28 0 1 (n+100) (opE base 0 .nils) (opS0 rm m p base from_ 0)=some (.exit 0,opE base last .nils,(opS0 rm m p base nx 0)))(hmn:m.length<n+60)(C:∀ k,m.length<k+60->Zd prog C0 (Z3 prog C0 (k+60)) (k+60) 23 [.ptr 0 0] ⟨1,[(0,dO rm m p)]⟩=some (.isl 2 (Zb m),⟨1,[(0,dO rm m p)]⟩))(B:Z2 prog C0 (n+100) 28 1 1 (n+100) (opG 1 base 0 m.length (Zb m) .nils) (opS0 rm m p base nx (last+1))=some (.exit 2,opH 1 .nils,(opS0 rm m p base nx st))):
  Zd prog C0 (Z3 prog C0 (n+100)) (n+100) 28 [.ptr 0 0,.int .i64 base,.int .i64 from_] ⟨1,[(0,dO rm m p)]⟩=some (.tup [.ptr 1 0,.nils,.nili],⟨2,[(0,dO rm m p),(1,chD base nx st)]⟩):=by
 have f1:LV.bool (if false=true then true else decide (base<0))=LV.bool false:=by simp;omega
 have f2:LV.bool (if false=true then true else decide (from_<base))=LV.bool false:=by simp;omega
 have f3:LV.bool (if false=true then true else decide (1073741824<from_))=LV.bool false:=by simp;omega
 have f4:=A
 have f5:LV.int i64 (IntKind.wrap i64 (last+1))=LV.int i64 (last+1):=by simp (disch:=omega)
 have f6:=C (n+39) (by omega)
 have f7:=zq7_15 m;have f8:=B
 exact drn (fun h=>ai (f1)<|ai (f2)<|ai (f3)<|ai (Eq.refl (Zc f4))<|ai (f4)<|ai (f5)<|ai (f6)<|ai (f7)<|ai (Eq.refl (Zc f8))<|ai (f8)<|h) (.s (.a) (.s (.s (.r [.a,.a,.a,.a,.a,.v (vOf f1) (.a),.a,.a,.a,.a,.v (vOf f2) (.a),.a,.a,.a,.v (vOf f3) (.a)]) (.a)) (.s (.a) (.s (.a) (.s (.a) (.s (.k (.l (.h [] (eOf f4) (Y2 f4) (rOf f4)))) (.s (.r [.a,.a,.v (vOf f5) (.a)]) (.s (.s (.r [.a,.f (rOf f6)]) (.k (.l (.h [.y 81 (vOf f7)] (eOf f8) (Y2 f8) (rOf f8))))) (.a))))))))) [] .a (by kernel_rfl)
theorem open_s(n:Nat)(rm:Int)(m:ML)(p:PL)(base from_ nx last st:Int)(h0:0<=base)(h1:base<=from_)(h2:from_<=1073741824)(la0:0<=last)(la:last<=1152921504606846976)(ls:ML)(hls:ls.length<=100000)(hm:m.length<=100000)(hT:(Zp ls).take ls.length=Zp ls)(A:Z2 prog C0 (n+100) 28 0 1 (n+100) (opE base 0 .nils) (opS0 rm m p base from_ 0)=some (.exit 0,opE base last (.sl 2 2 0 ls.length none),(opS rm m p base nx 0 (Zp ls))))(hmn:m.length<n+60)(C:∀ k,m.length<k+60->Zd prog C0 (Z3 prog C0 (k+60)) (k+60) 23 [.ptr 0 0] ⟨1,[(0,dO rm m p)]⟩=some (.isl 2 (Zb m),⟨1,[(0,dO rm m p)]⟩))(B:Z2 prog C0 (n+100) 28 1 1 (n+100) (opG 1 base 0 m.length (Zb m) (.sl 2 2 0 ls.length none)) (opS rm m p base nx (last+1) (Zp ls))=some (.exit 2,opH 1 (.sl 2 2 0 ls.length none),(opS rm m p base nx st (Zp ls)))):
  Zd prog C0 (Z3 prog C0 (n+100)) (n+100) 28 [.ptr 0 0,.int .i64 base,.int .i64 from_] ⟨1,[(0,dO rm m p)]⟩=some (.tup [.ptr 1 0,.sl 2 2 0 ls.length none,.nili],(opS rm m p base nx st (Zp ls))):=by
 have f1:LV.bool (if false=true then true else decide (base<0))=LV.bool false:=by simp;omega
 have f2:LV.bool (if false=true then true else decide (from_<base))=LV.bool false:=by simp;omega
 have f3:LV.bool (if false=true then true else decide (1073741824<from_))=LV.bool false:=by simp;omega
 have f4:=A
 have f5:LV.int i64 (IntKind.wrap i64 (last+1))=LV.int i64 (last+1):=by simp (disch:=omega)
 have f6:=C (n+39) (by omega)
 have f7:=zq7_15 m;have f8:=B
 exact drn (fun h=>ai (f1)<|ai (f2)<|ai (f3)<|ai (Eq.refl (Zc f4))<|ai (f4)<|ai (f5)<|ai (f6)<|ai (f7)<|ai (Eq.refl (Zc f8))<|ai (f8)<|h) (.s (.a) (.s (.s (.r [.a,.a,.a,.a,.a,.v (vOf f1) (.a),.a,.a,.a,.a,.v (vOf f2) (.a),.a,.a,.a,.v (vOf f3) (.a)]) (.a)) (.s (.a) (.s (.a) (.s (.a) (.s (.k (.l (.h [] (eOf f4) (Y2 f4) (rOf f4)))) (.s (.r [.a,.a,.v (vOf f5) (.a)]) (.s (.s (.r [.a,.f (rOf f6)]) (.k (.l (.h [.y 81 (vOf f7)] (eOf f8) (Y2 f8) (rOf f8))))) (.a))))))))) [] .a (by kernel_rfl)
theorem open_no(n:Nat)(rm:Int)(m:ML)(p:PL)(base from_ nx last st:Int)(h0:0<=base)(h1:base<=from_)(h2:from_<=1073741824)(la0:0<=last)(la:last<=1152921504606846976)(ls:ML)(hls:ls.length<=100000)(hm:m.length<=100000)(hT:(Zp ls).take ls.length=Zp ls)(A:Z2 prog C0 (n+100) 28 0 1 (n+100) (opE base 0 .nils) (opS0 rm m p base from_ 0)=some (.exit 0,opE base last .nils,(opS0 rm m p base nx 0)))(hmn:m.length<n+60)(C:∀ k,m.length<k+60->Zd prog C0 (Z3 prog C0 (k+60)) (k+60) 23 [.ptr 0 0] ⟨1,[(0,dO rm m p)]⟩=some (.isl 2 (Zb m),⟨1,[(0,dO rm m p)]⟩))(B:Z2 prog C0 (n+100) 28 1 1 (n+100) (opG 1 base 0 m.length (Zb m) .nils) (opS0 rm m p base nx (last+1))=some (.exit 2,opH 3 .nils,(opT0 rm m p base nx st))):
  Zd prog C0 (Z3 prog C0 (n+100)) (n+100) 28 [.ptr 0 0,.int .i64 base,.int .i64 from_] ⟨1,[(0,dO rm m p)]⟩=some (.tup [.ptr 1 0,.nils,.nili],⟨2,[(0,dO rm m p),(1,chD base nx st)]⟩):=by
 have f1:LV.bool (if false=true then true else decide (base<0))=LV.bool false:=by simp;omega
 have f2:LV.bool (if false=true then true else decide (from_<base))=LV.bool false:=by simp;omega
 have f3:LV.bool (if false=true then true else decide (1073741824<from_))=LV.bool false:=by simp;omega
 have f4:=A
 have f5:LV.int i64 (IntKind.wrap i64 (last+1))=LV.int i64 (last+1):=by simp (disch:=omega)
 have f6:=C (n+39) (by omega)
 have f7:=zq7_15 m;have f8:=B
 have f9:List.length (Zg p)=List.length p:=by simp
 have f10:(LV.tup [.ptr 1 0,.nils,LV.nili],St.mk 2 [(0,LObj.box 77 [.int i64 rm,.omap i64 (List.map (·.1) (Zm m)) (List.map (·.2) (Zm m)),.own 88 2 (Zg p)]),(1,LObj.box 106 [.ptr 0 0,.int i64 base,.int i64 nx,.int i64 st])])=(LV.tup [.ptr 1 0,.nils,LV.nili],St.mk 2 [(0,dO rm m p),(1,chD base nx st)]):=by simp
 exact drn (fun h=>ai (f1)<|ai (f2)<|ai (f3)<|ai (Eq.refl (Zc f4))<|ai (f4)<|ai (f5)<|ai (f6)<|ai (f7)<|ai (Eq.refl (Zc f8))<|ai (f8)<|ai (f9)<|f10) (.s (.a) (.s (.s (.r [.a,.a,.a,.a,.a,.v (vOf f1) (.a),.a,.a,.a,.a,.v (vOf f2) (.a),.a,.a,.a,.v (vOf f3) (.a)]) (.a)) (.s (.a) (.s (.a) (.s (.a) (.s (.k (.l (.h [] (eOf f4) (Y2 f4) (rOf f4)))) (.s (.r [.a,.a,.v (vOf f5) (.a)]) (.s (.s (.r [.a,.f (rOf f6)]) (.k (.l (.h [.y 81 (vOf f7)] (eOf f8) (Y2 f8) (rOf f8))))) (.a))))))))) [] .q (by kernel_rfl)
theorem open_so(n:Nat)(rm:Int)(m:ML)(p:PL)(base from_ nx last st:Int)(h0:0<=base)(h1:base<=from_)(h2:from_<=1073741824)(la0:0<=last)(la:last<=1152921504606846976)(ls:ML)(hls:ls.length<=100000)(hm:m.length<=100000)(hT:(Zp ls).take ls.length=Zp ls)(A:Z2 prog C0 (n+100) 28 0 1 (n+100) (opE base 0 .nils) (opS0 rm m p base from_ 0)=some (.exit 0,opE base last (.sl 2 2 0 ls.length none),(opS rm m p base nx 0 (Zp ls))))(hmn:m.length<n+60)(C:∀ k,m.length<k+60->Zd prog C0 (Z3 prog C0 (k+60)) (k+60) 23 [.ptr 0 0] ⟨1,[(0,dO rm m p)]⟩=some (.isl 2 (Zb m),⟨1,[(0,dO rm m p)]⟩))(B:Z2 prog C0 (n+100) 28 1 1 (n+100) (opG 1 base 0 m.length (Zb m) (.sl 2 2 0 ls.length none)) (opS rm m p base nx (last+1) (Zp ls))=some (.exit 2,opH 3 (.sl 2 4 0 ls.length none),(opT rm m p base nx st (Zp ls)))):
  Zd prog C0 (Z3 prog C0 (n+100)) (n+100) 28 [.ptr 0 0,.int .i64 base,.int .i64 from_] ⟨1,[(0,dO rm m p)]⟩=some (.tup [.ptr 1 0,.sl 2 2 0 ls.length none,.nili],(opS rm m p base nx st (Zp ls))):=by
 have f1:LV.bool (if false=true then true else decide (base<0))=LV.bool false:=by simp;omega
 have f2:LV.bool (if false=true then true else decide (from_<base))=LV.bool false:=by simp;omega
 have f3:LV.bool (if false=true then true else decide (1073741824<from_))=LV.bool false:=by simp;omega
 have f4:=A
 have f5:LV.int i64 (IntKind.wrap i64 (last+1))=LV.int i64 (last+1):=by simp (disch:=omega)
 have f6:=C (n+39) (by omega)
 have f7:=zq7_15 m;have f8:=B
 have f9:List.length (Zg p)=List.length p:=by simp
 have f10:(LV.tup [.ptr 1 0,.sl 2 2 0 (List.length ls) none,LV.nili],St.mk 3 [(0,LObj.box 77 [.int i64 rm,.omap i64 (List.map (·.1) (Zm m)) (List.map (·.2) (Zm m)),.own 88 2 (Zg p)]),(1,LObj.box 106 [.ptr 0 0,.int i64 base,.int i64 nx,.int i64 st]),(2,LObj.row 64 2 (Zp ls))])=(LV.tup [.ptr 1 0,.sl 2 2 0 (List.length ls) none,LV.nili],opS rm m p base nx st (Zp ls)):=by simp
 exact drn (fun h=>ai (f1)<|ai (f2)<|ai (f3)<|ai (Eq.refl (Zc f4))<|ai (f4)<|ai (f5)<|ai (f6)<|ai (f7)<|ai (Eq.refl (Zc f8))<|ai (f8)<|ai (f9)<|f10) (.s (.a) (.s (.s (.r [.a,.a,.a,.a,.a,.v (vOf f1) (.a),.a,.a,.a,.a,.v (vOf f2) (.a),.a,.a,.a,.v (vOf f3) (.a)]) (.a)) (.s (.a) (.s (.a) (.s (.a) (.s (.k (.l (.h [] (eOf f4) (Y2 f4) (rOf f4)))) (.s (.r [.a,.a,.v (vOf f5) (.a)]) (.s (.s (.r [.a,.f (rOf f6)]) (.k (.l (.h [.y 81 (vOf f7)] (eOf f8) (Y2 f8) (rOf f8))))) (.a))))))))) [] .q (by kernel_rfl)
def Zr(rd:Int->List Int):Nat->Int->Int->ML × Int × Int
 | 0,nx,last=>([],nx,last)
 | k+1,nx,last=>match Xs rd nx last with
  | none=>([],nx,last)
  | some (o,c,s)=>(if o.length=0 then (Zr rd k (nx+c) s).1 else (nx,o)::(Zr rd k (nx+c) s).1,(Zr rd k (nx+c) s).2.1,(Zr rd k (nx+c) s).2.2)
def opLV(c:Nat):ML->LV
 | []=>.nils
 | x::ls=>.sl 2 c 0 (x::ls).length none
def opSt(rm:Int)(m:ML)(p:PL)(base nx st:Int):ML->St
 | []=>opS0 rm m p base nx st
 | x::ls=>opS rm m p base nx st (Zp (x::ls))
def opTt(rm:Int)(m:ML)(p:PL)(base nx st:Int):ML->St
 | []=>opT0 rm m p base nx st
 | x::ls=>opT rm m p base nx st (Zp (x::ls))
theorem oneS_ok{rd:Int->List Int}{at_:Int}(h64:∀ a,(rd a).length=64)(hB:∀ a,byB (rd a)):∀ {k:Nat} {n want last:Int} {o r:List Int} {c s:Int},0<want->0<=last->oneS rd at_ k n want last o=some (r,c,s)->n<c/\c<=n+k/\last<s/\s<=1152921504606846976/\(byB o->byB r)/\o.length<r.length
 | 0,n,want,last,o,r,c,s,hw,hl,h=>by simp [oneS] at h
 | k+1,n,want,last,o,r,c,s,hw,hl,h=>by
  obtain ⟨c1,c2,c3,c4,c5⟩:=cellS_ok (h64 (at_+n)) (hB (at_+n));have c6:=cellS_by (hB (at_+n));unfold oneS at h;simp only at h;generalize Y9 (rd (at_+n))=x at *
  split at h
  ·simp at h
  ·rename_i hn
   simp only [not_or,Decidable.not_not] at hn;obtain ⟨n1,n2,n3,n4⟩:=hn;have hp:=c5 (.inl (by omega))
   split at h
   ·simp only [Option.some.injEq,Prod.mk.injEq] at h
    obtain ⟨rfl,rfl,rfl⟩:=h
    refine ⟨by omega,by omega,by omega,c2,fun ho=>ho.app (c6.take _),?_⟩
    rw [List.length_append,List.length_take];omega
   ·obtain ⟨q1,q2,q3,q4,q5,q6⟩:=oneS_ok h64 hB (by omega) c1 h
    exact ⟨by omega,by omega,by omega,q4,fun ho=>q5 (ho.app c6),by rw [List.length_append] at q6;omega⟩
theorem oneX_ok{rd:Int->List Int}{at_ last:Int}(h64:∀ a,(rd a).length=64)(hB:∀ a,byB (rd a)){r:List Int}{c s:Int}(hl:0<=last)(h:Xs rd at_ last=some (r,c,s)):1<=c/\c<=361/\last<s/\s<=1152921504606846976/\byB r:=by
 obtain ⟨c1,c2,c3,c4,c5⟩:=cellS_ok (h64 at_) (hB at_);have c6:=cellS_by (hB at_);unfold Xs at h;simp only at h;generalize Y9 (rd at_)=x at *
 split at h
 ·simp at h
 ·rename_i hn
  simp only [not_or,Int.not_le,Bool.not_eq_false] at hn;obtain ⟨n1,n2,n3⟩:=hn
  split at h
  ·simp only [Option.some.injEq,Prod.mk.injEq] at h
   obtain ⟨rfl,rfl,rfl⟩:=h
   exact ⟨by omega,by omega,n3,c2,c6.take _⟩
  ·obtain ⟨q1,q2,q3,q4,q5,q6⟩:=oneS_ok h64 hB (by omega) c1 h
   exact ⟨by omega,by omega,by omega,q4,q5 c6⟩
theorem open_loop(n:Nat)(hn:400<=n)(rm:Int)(m:ML)(p:PL)(hp:p.length<=1000000)(ho:okP p)(base:Int)(hB:∀ a,byB (rd m p a))(A:Int)(hA:A<=1073000000)(hz:∀ a last,A<=a->0<=last->Xs (rd m p) a last=none):
  ∀ (k fu:Nat) (nx last:Int) (ls:ML),A<=nx+k->k<fu->0<=nx->nx<=A+400->0<=last->last<=1152921504606846976->ls.length+k<=100000 ->
  Z2 prog C0 (n+100) 28 0 1 fu (opE base last (opLV 2 ls)) (opSt rm m p base nx 0 ls) =
   some (.exit 0,opE base (Zr (rd m p) k nx last).2.2 (opLV 2 (ls++(Zr (rd m p) k nx last).1)),opSt rm m p base (Zr (rd m p) k nx last).2.1 0 (ls++(Zr (rd m p) k nx last).1)):=by
 have stop:∀ (fu:Nat) (nx last:Int) (ls:ML),0<=nx->nx<=A+400->0<=last->last<=1152921504606846976->ls.length<=100000->Xs (rd m p) nx last=none ->
   Z2 prog C0 (n+100) 28 0 1 (fu+1) (opE base last (opLV 2 ls)) (opSt rm m p base nx 0 ls)=some (.exit 0,opE base last (opLV 2 ls),opSt rm m p base nx 0 ls):=by
  intro fu nx last ls h0 h1 h2 h3 h4 he;have O:OnF rm m p nx last (oneV none):=fun j hj=>by
   have:=one_any j (by omega) rm m p hp ho nx last h0 (by omega) hB h2 h3
   rw [he] at this;exact this
  cases ls with
  | nil=>exact op_nx n fu hn rm m p base nx last h0 (by omega) 0 0 (by omega) (by omega) [] [] (by simp) O
  | cons x ls=>exact op_sx n fu hn rm m p base nx last h0 (by omega) 0 0 (by omega) (by omega) [] (x::ls) h4 O
 intro k
 induction k with
 | zero =>
  intro fu nx last ls hk hf h0 h1 h2 h3 h4;obtain ⟨fu,rfl⟩:∃ q,fu=q+1:=⟨fu-1,by omega⟩
  simp only [Zr,List.append_nil];exact stop fu nx last ls h0 h1 h2 h3 (by omega) (hz nx last (by omega) h2)
 | succ k ih =>
  intro fu nx last ls hk hf h0 h1 h2 h3 h4;obtain ⟨fu,rfl⟩:∃ q,fu=q+1:=⟨fu-1,by omega⟩
  cases he:Xs (rd m p) nx last with
  | none =>
   have e:Zr (rd m p) (k+1) nx last=([],nx,last):=by simp only [Zr,he]
   rw [e];simp only [List.append_nil];exact stop fu nx last ls h0 h1 h2 h3 (by omega) he
  | some r =>
   obtain ⟨o,c,s⟩:=r
   have hlt:nx<A:=Int.not_le.1 fun h=>by rw [hz nx last h h2] at he;simp at he
   obtain ⟨q1,q2,q3,q4,q5⟩:=oneX_ok (rd_length m p) hB h2 he;have O:OnF rm m p nx last (oneV (some (o,c,s))):=fun j hj=>by
    have:=one_any j (by omega) rm m p hp ho nx last h0 (by omega) hB h2 h3
    rw [he] at this;exact this
   by_cases hz2:o.length=0
   ·have e:Zr (rd m p) (k+1) nx last=Zr (rd m p) k (nx+c) s:=by simp only [Zr,he,hz2,if_true]
    rw [e];have I:=ih fu (nx+c) s ls (by omega) (by omega) (by omega) (by omega) (by omega) q4 (by omega)
    have ho0:o=[]:=List.length_eq_zero_iff.1 hz2;subst ho0
    cases ls with
    | nil=>exact op_ne n fu hn rm m p base nx last h0 (by omega) c s (by omega) (by omega) [] [] (by simp) O q1 _ I
    | cons x ls=>exact op_se n fu hn rm m p base nx last h0 (by omega) c s (by omega) (by omega) [] (x::ls) (by omega) O q1 _ I
   ·have e:Zr (rd m p) (k+1) nx last=((nx,o)::(Zr (rd m p) k (nx+c) s).1,(Zr (rd m p) k (nx+c) s).2):=by simp only [Zr,he,hz2,if_false]
    rw [e];have I:=ih fu (nx+c) s (ls++[(nx,o)]) (by omega) (by omega) (by omega) (by omega) (by omega) q4 (by rw [List.length_append];simp;omega)
    rw [List.append_assoc,List.singleton_append] at I;simp only
    cases ls with
    | nil=>exact op_nr n fu hn rm m p base nx last h0 (by omega) c s (by omega) (by omega) o [] (by simp) O q1 (by omega) _ I
    | cons x ls =>
     refine op_sr n fu hn rm m p base nx last h0 (by omega) c s (by omega) (by omega) o (x::ls) (by omega) O q1 (by omega) _ ?_
     simp only [opLV,opSt,List.cons_append] at I ⊢;rw [show (x::(ls++[(nx,o)])).length=(x::ls).length+1 by simp] at I
     exact I
def topS(base:Int):ML->Int->Int
 | [],t=>t
 | x::q,t=>topS base q (if x.1<base then t else max3 t (Xt (blk x.2)) (Xt ((blk x.2).drop 56)))
theorem cellsL_at'{m:ML}{i:Nat}{x:Int × List Int}(h:m[i]? = some x):(Zb m)[i]? = some (.agg [.int .i64 x.1,.isl 1 (bys (blk x.2))]):=by simp [Zb,cellL,h]
def svO(o:Bool)(rm:Int)(m:ML)(p:PL)(base nx st:Int)(ls:ML):St:=if o then opTt rm m p base nx st ls else opSt rm m p base nx st ls
def cnO(o:Bool):Nat:=if o then 3 else 1
def lvO(o:Bool)(ls:ML):LV:=if o then opLV 4 ls else opLV 2 ls
theorem op2_end(n fu:Nat)(hn:400<=n)(o:Bool)(rm:Int)(m:ML)(p:PL)(base nx st:Int)(hm:m.length<=100000)(ls:ML)(hls:ls.length<=100000):
  Z2 prog C0 (n+100) 28 1 1 (fu+1) (opG (cnO o) base m.length m.length (Zb m) (lvO o ls)) (svO o rm m p base nx st ls)=some (.exit 2,opH (cnO o) (lvO o ls),svO o rm m p base nx st ls):=by
 cases o with
 | false=>cases ls with
  | nil=>exact op2_nx n fu hn rm m p base nx st m hm [] (by simp) 0 (by omega) 0 (List.replicate 64 0) (by simp)
  | cons x ls=>exact op2_sx n fu hn rm m p base nx st m hm (x::ls) hls 0 (by omega) 0 (List.replicate 64 0) (by simp)
 | true=>cases ls with
  | nil=>exact op2_nox n fu hn rm m p base nx st m hm [] (by simp) 0 (by omega) 0 (List.replicate 64 0) (by simp)
  | cons x ls=>exact op2_sox n fu hn rm m p base nx st m hm (x::ls) hls 0 (by omega) 0 (List.replicate 64 0) (by simp)
theorem op2_skip(n fu:Nat)(hn:400<=n)(o:Bool)(rm:Int)(m:ML)(p:PL)(base nx st:Int)(hm:m.length<=100000)(ls:ML)(hls:ls.length<=100000)(i:Nat)(x:Int × List Int)(hx:m[i]? = some x)(ha:x.1<base)(r:LX × LEnv × St)(hr:Z2 prog C0 (n+100) 28 1 1 fu (opG (cnO o) base ((i:Int)+1) m.length (Zb m) (lvO o ls)) (svO o rm m p base nx st ls)=some r):
  Z2 prog C0 (n+100) 28 1 1 (fu+1) (opG (cnO o) base i m.length (Zb m) (lvO o ls)) (svO o rm m p base nx st ls)=some r:=by
 have hi:=(List.getElem?_eq_some_iff.1 hx).1;have hc:=cellsL_at' hx;have hb:=blk_length x.2
 cases o with
 | false=>cases ls with
  | nil=>exact op2_ns n fu hn rm m p base nx st m hm [] (by simp) i (by omega) x.1 _ hb hc (by omega) ha r hr
  | cons y ls=>exact op2_ss n fu hn rm m p base nx st m hm (y::ls) hls i (by omega) x.1 _ hb hc (by omega) ha r hr
 | true=>cases ls with
  | nil=>exact op2_nos n fu hn rm m p base nx st m hm [] (by simp) i (by omega) x.1 _ hb hc (by omega) ha r hr
  | cons y ls=>exact op2_sos n fu hn rm m p base nx st m hm (y::ls) hls i (by omega) x.1 _ hb hc (by omega) ha r hr
theorem op2_take(n fu:Nat)(hn:400<=n)(o:Bool)(rm:Int)(m:ML)(p:PL)(base nx st:Int)(hm:m.length<=100000)(ls:ML)(hls:ls.length<=100000)(i:Nat)(x:Int × List Int)(hx:m[i]? = some x)(ha:base<=x.1)(hB:byB (blk x.2))(r:LX × LEnv × St)(hr:Z2 prog C0 (n+100) 28 1 1 fu (opG 3 base ((i:Int)+1) m.length (Zb m) (lvO true ls)) (svO true rm m p base nx (max3 st (Xt (blk x.2)) (Xt ((blk x.2).drop 56))) ls)=some r):
  Z2 prog C0 (n+100) 28 1 1 (fu+1) (opG (cnO o) base i m.length (Zb m) (lvO o ls)) (svO o rm m p base nx st ls)=some r:=by
 have hi:=(List.getElem?_eq_some_iff.1 hx).1;have hc:=cellsL_at' hx;have hb:=blk_length x.2;have x1:=numB_le hB;have y1:=numB_le (hB.drop 56);generalize blk x.2=b at *;have N:=fun k=>cnum_any k (b:=b.take 8) (by simp [hb]) (hB.take 8)
 have M:=fun k=>cnum_any k (b:=b.drop 56) (by simp [hb]) (hB.drop 56)
 have E1:=fun k=>eight_any k (b:=b) (by omega)
 have E2:=fun k=>eight_any k (b:=b.drop 56) (by simp [hb])
 rw [numB_take] at N;rw [List.take_of_length_le (show (b.drop 56).length<=8 by simp [hb])] at E2
 obtain ⟨a0,a1,a2,a3,a4,a5,a6,a7,h1,h2,w,z0,z1,z2,z3,z4,z5,z6,z7,rfl,hw⟩:=split64 hb;have e2:(a0::a1::a2::a3::a4::a5::a6::a7::h1::h2::(w++[z0,z1,z2,z3,z4,z5,z6,z7])).drop 56=[z0,z1,z2,z3,z4,z5,z6,z7]:=by
  show (w++[z0,z1,z2,z3,z4,z5,z6,z7]).drop 46=_
  rw [<- hw,List.drop_left]
 have e3:(h1::h2::(w++[z0,z1,z2,z3,z4,z5,z6,z7])).drop 48=[z0,z1,z2,z3,z4,z5,z6,z7]:=by
  show (w++[z0,z1,z2,z3,z4,z5,z6,z7]).drop 46=_
  rw [<- hw,List.drop_left]
 rw [e2] at M E2 y1 hr;have E3:∀ k,Zd prog C0 (Z3 prog C0 (k+20)) (k+20) 55 [.isl 1 (bys ((h1::h2::(w++[z0,z1,z2,z3,z4,z5,z6,z7])).drop 48))] ⟨0,[]⟩=some (.agg (bys [z0,z1,z2,z3,z4,z5,z6,z7]),⟨0,[]⟩):=fun k=>by rw [e3];exact E2 k
 have hwl:(h1::h2::(w++[z0,z1,z2,z3,z4,z5,z6,z7])).length=56:=by simp [hw]
 cases o with
 | false=>cases ls with
  | nil=>exact op2_nm n fu hn rm m p base nx st m hm [] (by simp) i (by omega) x.1 _ _ _ _ _ _ _ _ _ _ _ _ _ _ _ _ _ hwl hc (by omega) ha _ _ x1.1 x1.2 y1.1 y1.2 E1 E3 N M r hr
  | cons y ls=>exact op2_sm n fu hn rm m p base nx st m hm (y::ls) hls i (by omega) x.1 _ _ _ _ _ _ _ _ _ _ _ _ _ _ _ _ _ hwl hc (by omega) ha _ _ x1.1 x1.2 y1.1 y1.2 E1 E3 N M r hr
 | true=>cases ls with
  | nil=>exact op2_nom n fu hn rm m p base nx st m hm [] (by simp) i (by omega) x.1 _ _ _ _ _ _ _ _ _ _ _ _ _ _ _ _ _ hwl hc (by omega) ha _ _ x1.1 x1.2 y1.1 y1.2 E1 E3 N M r hr
  | cons y ls=>exact op2_som n fu hn rm m p base nx st m hm (y::ls) hls i (by omega) x.1 _ _ _ _ _ _ _ _ _ _ _ _ _ _ _ _ _ hwl hc (by omega) ha _ _ x1.1 x1.2 y1.1 y1.2 E1 E3 N M r hr
theorem op2_loop(n:Nat)(hn:400<=n)(rm:Int)(m:ML)(p:PL)(base nx:Int)(hm:m.length<=100000)(hB:∀ x∈m,byB (blk x.2))(ls:ML)(hls:ls.length<=100000):
  ∀ (q:ML) (i fu:Nat) (st:Int) (o:Bool),m.drop i=q->i<=m.length->q.length<fu->∃ o',(o=true->o'=true) /\
   Z2 prog C0 (n+100) 28 1 1 fu (opG (cnO o) base i m.length (Zb m) (lvO o ls)) (svO o rm m p base nx st ls)=some (.exit 2,opH (cnO o') (lvO o' ls),svO o' rm m p base nx (topS base q st) ls)
 | [],i,fu,st,o,hd,hi,hf=>by
  obtain ⟨fu,rfl⟩:∃ q,fu=q+1:=⟨fu-1,by simp at hf;omega⟩
  have:m.length<=i:=by simpa using hd
  obtain rfl:i=m.length:=by omega
  exact ⟨o,id,op2_end n fu hn o rm m p base nx st hm ls hls⟩
 | x::q,i,fu,st,o,hd,hi,hf=>by
  obtain ⟨fu,rfl⟩:∃ q,fu=q+1:=⟨fu-1,by simp at hf;omega⟩
  have hx:m[i]? = some x:=by
   have:=congrArg List.head? hd;simpa [List.head?_drop] using this
  have hlt:=(List.getElem?_eq_some_iff.1 hx).1;have hd2:m.drop (i+1)=q:=by rw [<- List.drop_drop,hd];rfl
  by_cases ha:x.1<base
  ·obtain ⟨o',h1,h2⟩:=op2_loop n hn rm m p base nx hm hB ls hls q (i+1) fu st o hd2 (by omega) (by simp at hf;omega)
   refine ⟨o',h1,?_⟩;rw [topS,if_pos ha];exact op2_skip n fu hn o rm m p base nx st hm ls hls i x hx ha _ h2
  ·obtain ⟨o',h1,h2⟩:=op2_loop n hn rm m p base nx hm hB ls hls q (i+1) fu _ true hd2 (by omega) (by simp at hf;omega)
   refine ⟨o',fun _=>h1 rfl,?_⟩
   rw [topS,if_neg ha];exact op2_take n fu hn o rm m p base nx st hm ls hls i x hx (by omega) (hB x (List.mem_of_getElem? hx)) _ h2
theorem linksS_ok{rd:Int->List Int}(h64:∀ a,(rd a).length=64)(hB:∀ a,byB (rd a)):∀ (k:Nat) (nx last:Int),0<=last->last<=1152921504606846976->(Zr rd k nx last).1.length<=k/\last<=(Zr rd k nx last).2.2/\(Zr rd k nx last).2.2<=1152921504606846976/\nx<=(Zr rd k nx last).2.1
 | 0,nx,last,h0,h1=>by simp [Zr];omega
 | k+1,nx,last,h0,h1=>by
  cases he:Xs rd nx last with
  | none=>simp only [Zr,he,List.length_nil];omega
  | some r =>
   obtain ⟨o,c,s⟩:=r
   obtain ⟨q1,q2,q3,q4,q5⟩:=oneX_ok h64 hB h0 he;obtain ⟨i1,i2,i3,i4⟩:=linksS_ok h64 hB k (nx+c) s (by omega) q4
   simp only [Zr,he];refine ⟨?_,by omega,i3,by omega⟩
   split
   ·omega
   ·simp;omega
theorem open_any(n:Nat)(hn:400<=n)(rm:Int)(m:ML)(p:PL)(hp:p.length<=1000000)(ho:okP p)(base from_:Int)(h0:0<=base)(h1:base<=from_)(hB:∀ a,byB (rd m p a))(hBm:∀ x∈m,byB (blk x.2))(A:Int)(hA:A<=1073000000)(h2:from_<=A+400)(hz:∀ a last,A<=a->0<=last->Xs (rd m p) a last=none)(hK:keysOk (Zm m))(hm:m.length<=100000)(hmn:m.length<n+60)(k:Nat)(hk:A<=from_+k)(hkn:k<n+100)(hk2:k<=100000):
  Zd prog C0 (Z3 prog C0 (n+100)) (n+100) 28 [.ptr 0 0,.int .i64 base,.int .i64 from_] ⟨1,[(0,dO rm m p)]⟩ =
   some (.tup [.ptr 1 0,opLV 2 (Zr (rd m p) k from_ 0).1,.nili],opSt rm m p base (Zr (rd m p) k from_ 0).2.1 (topS base m ((Zr (rd m p) k from_ 0).2.2+1)) (Zr (rd m p) k from_ 0).1):=by
 have A1:=open_loop n hn rm m p hp ho base hB A hA hz k (n+100) from_ 0 [] hk hkn (by omega) (by omega) (by omega) (by omega) (by simp;omega)
 obtain ⟨l1,l2,l3,l4⟩:=linksS_ok (rd_length m p) hB k from_ 0 (by omega) (by omega)
 have C:∀ j:Nat,m.length<j+60->Zd prog C0 (Z3 prog C0 (j+60)) (j+60) 23 [.ptr 0 0] ⟨1,[(0,dO rm m p)]⟩=some (.isl 2 (Zb m),⟨1,[(0,dO rm m p)]⟩):=fun j hj=>cells_ok j rm m p hK hj
 rw [List.nil_append] at A1;generalize Zr (rd m p) k from_ 0=L at *;obtain ⟨ls,nx,last⟩:=L
 simp only at A1 l1 l2 l3 l4 ⊢;obtain ⟨o',_,B1⟩:=op2_loop n hn rm m p base nx hm hBm ls (by omega) m 0 (n+100) (last+1) false rfl (by omega) (by omega)
 have hT:(Zp ls).take ls.length=Zp ls:=List.take_of_length_le (by simp)
 cases o' with
 | false=>cases ls with
  | nil=>exact open_n n rm m p base from_ nx last _ h0 h1 (by omega) (by omega) l3 [] (by simp) hm hT A1 hmn C B1
  | cons x ls=>exact open_s n rm m p base from_ nx last _ h0 h1 (by omega) (by omega) l3 (x::ls) (by omega) hm hT A1 hmn C B1
 | true=>cases ls with
  | nil=>exact open_no n rm m p base from_ nx last _ h0 h1 (by omega) (by omega) l3 [] (by simp) hm hT A1 hmn C B1
  | cons x ls=>exact open_so n rm m p base from_ nx last _ h0 h1 (by omega) (by omega) l3 (x::ls) (by omega) hm hT A1 hmn C B1
def hdJ:Nat->Int
 | 0=>32768
 | _+1=>0
def putX(st:Int)(b:List Int)(j:Nat):List Int:=X1 (st+(j:Int)) (bits .or .i64 (hdJ j) (ptL b (j:Int))) (ptP b (j:Int))
def putP(st nx:Int)(b:List Int)(p:PL):Nat->PL
 | 0=>p
 | j+1=>putP st nx b p j++[(nx+(j:Int),some (putX st b j))]
theorem ptP_length(b:List Int)(i:Int):(ptP b i).length<=46:=by
 unfold ptP;rw [List.length_take]
 split <;> omega
theorem putX_length(st:Int)(b:List Int)(j:Nat):(putX st b j).length=64:=Xv _ _ _ (ptP_length b j)
theorem putP_length(st nx:Int)(b:List Int)(p:PL):∀ j,(putP st nx b p j).length=p.length+j
 | 0=>rfl
 | j+1=>by rw [putP,List.length_append,putP_length st nx b p j];rfl
theorem okP_app{p q:PL}(h1:okP p)(h2:okP q):okP (p++q):=fun x hx=>(List.mem_append.1 hx).elim (h1 x) (h2 x)
theorem okP_one{a:Int}{b:List Int}(h:b.length=64):okP [(a,some b)]:=by
 intro x hx c hc;rw [List.mem_singleton.1 hx] at hc
 cases hc
 rintro rfl;simp at h
theorem put_loop(n:Nat)(base nx st rm:Int)(N:Nat)(m:ML)(p:PL)(b:List Int)(hb:b.length<=3000)(hN:1<=N)(hN2:N<=100)(hnx:0<=nx)(hnx2:nx<=1000000)(hs:0<=st)(hs2:st<=90000)(W:∀ j,j<N->∀ k,Zd prog C0 (Z3 prog C0 (k+20)) (k+20) 20 [.ptr 0 0,.int .i64 (nx+(j:Int)),.isl 1 (bys (putX st b j))] ⟨1,[(0,dO rm m (putP st nx b p j))]⟩=some (.nili,⟨1,[(0,dO rm m (putP st nx b p (j+1)))]⟩)):
  ∀ (q j fu:Nat),j+q=N->q<fu->
  Z2 prog C0 (n+60) 56 0 2 fu (ptE b N nx (hdJ j) j) ⟨2,[(0,chO base nx (st+j)),(1,dO rm m (putP st nx b p j))]⟩=some (.exit 0,ptX b N nx 0 N,⟨2,[(0,chO base nx (st+N)),(1,dO rm m (putP st nx b p N))]⟩)
 | 0,j,fu,h,hf=>by
  obtain ⟨fu,rfl⟩:∃ k,fu=k+1:=⟨fu-1,by omega⟩
  have e:j=N:=by omega
  subst e;obtain ⟨i,rfl⟩:∃ i,j=i+1:=⟨j-1,by omega⟩
  exact put_end n fu base nx (st+((i+1:Nat):Int)) rm _ (hdJ (i+1)) m _ b hb (by omega) (by omega) hnx hnx2
 | q+1,j,fu,h,hf=>by
  obtain ⟨fu,rfl⟩:∃ k,fu=k+1:=⟨fu-1,by omega⟩
  have ih:=put_loop n base nx st rm N m p b hb hN hN2 hnx hnx2 hs hs2 W q (j+1) fu (by omega) (by omega)
  have h1:0<=hdJ j/\hdJ j<=32768:=by cases j <;> simp [hdJ]
  refine put_step n fu base nx (st+j) rm N (hdJ j) j m (putP st nx b p j) (putP st nx b p (j+1)) b (putX st b j) hb (by omega) (by omega) hnx hnx2 (by omega) (by omega) h1.1 h1.2 (by omega) (by omega)
   (fun k=>fill_ok k (st+j) _ (by omega) (by omega) _ (ptP_length b j)) (W j (by omega)) _ ?_
  have e1:((j+1:Nat):Int)=(j:Int)+1:=by omega
  rw [e1,<- Int.add_assoc] at ih;exact ih
theorem pendN_app(q:List LV):∀ (p:PL) (m:List (Int × LV)),Wv (Zg p++q) m=Wv q (Wv (Zg p) m)
 | [],m=>rfl
 | (a,none)::p,m=>pendN_app q p m
 | (a,some b)::p,m=>pendN_app q p (kinc m a)
theorem needs_app(m:ML)(p:PL)(a:Int)(b:List Int):Zl m (p++[(a,some b)])=kinc (Zl m p) a:=by
 unfold Zl;rw [show Zg (p++[(a,some b)])=Zg p++Zg [(a,some b)] by simp,pendN_app]
 rfl
structure Upto (p:PL) (k:Nat):Prop where
 ok:okP p
 len:(Zl [] p).length=k
 keys:∀ x∈(Zl [] p).map (·.1),x<(k:Int)
theorem Upto.none{p k}(h:Upto p k):Yk (Zl [] p) (k:Int)=none:=kget_none fun hm=>by have:=h.keys _ hm;omega
theorem kins_length:∀ (es:List (Int × LV)) (n:Int) (x:LV),(kins es n x).length=es.length+1
 | [],n,x=>rfl
 | (k,v)::l,n,x=>by
  unfold kins
  split
  ·rfl
  ·rw [List.length_cons,kins_length l n x];rfl
theorem Upto.step{p k}(h:Upto p k){b:List Int}(hb:b.length=64):Upto (p++[((k:Int),some b)]) (k+1):=by
 have e:Zl [] (p++[((k:Int),some b)])=kins (Zl [] p) k (.int .i64 1):=by
  rw [needs_app];unfold kinc;rw [h.none];unfold Wy;rw [h.none]
  rfl
 refine ⟨okP_app h.ok (okP_one hb),?_,?_⟩
 ·rw [e,kins_length,h.len]
 ·intro x hx
  rw [e] at hx;have:=((kins_perm (Zl [] p) k (.int .i64 1)).map (·.1)).mem_iff.1 hx
  rcases List.mem_cons.1 this with rfl | h2
  ·show (k:Int)<_;omega
  ·have:=h.keys x h2;omega
theorem Upto.putP{p k}(h:Upto p k)(st:Int)(b:List Int):∀ j,Upto (putP st (k:Int) b p j) (k+j)
 | 0=>h
 | j+1=>by
  have:=(Upto.putP h st b j).step (putX_length st b j);rw [show ((k+j:Nat):Int)=(k:Int)+(j:Int) by omega] at this
  exact this
def Zo(a:Nat):Nat:=if (a+45)/46<1 then 1 else (a+45)/46
theorem blocks_nat(k:Nat)(b:List Int)(hb:b.length<=3000):Zd prog C0 (Z3 prog C0 (k+20)) (k+20) 32 [.int .i64 (bys b).length] ⟨0,[]⟩=some (.int .i64 (Zo b.length),⟨0,[]⟩):=by
 have:=blocks_ok k (b.length:Int) (by omega) (by omega)
 rw [bys_length,this];have e:((b.length:Int)+45).tdiv 46=(((b.length+45)/46:Nat):Int):=by
  rw [Int.tdiv_eq_ediv_of_nonneg (by omega)];omega
 rw [e];unfold Zo
 congr 3
 split <;> split <;> omega
theorem blksN_pos(a:Nat):1<=Zo a:=by unfold Zo;split <;> omega
theorem blksN_le(a:Nat)(h:a<=3000):Zo a<=100:=by unfold Zo;split <;> omega
abbrev flt(op:List UInt8)(a c:Int):LV:=.ifc 115 (.agg [.str op,.int .i64 a,.ifc 71 (.int .i64 c)])
theorem write_full(n:Nat)(at_:Int)(b:List Int)(rm:Int)(m:ML)(p:PL)(h0:0<=at_)(h1:at_<=1073741824)(hb:b.length<=64)(hp:p.length<=1000000)(ho:okP p)(hk:Yk (Zl m p) at_=none)(hr:rm<=(Zl m p).length):
  Zd prog C0 (Z3 prog C0 (n+20)) (n+20) 20 [.ptr 0 0,.int .i64 at_,.isl 1 (bys b)] ⟨1,[(0,dO rm m p)]⟩=some (flt [98,108,111,99,107] at_ 7,⟨1,[(0,dO rm m p)]⟩):=by
 have f1:=right_ok (n+10) at_ h0 h1;have f2:decide (64<((bys b).length:Int))=false:=by simp;omega
 have f3:=needs_ok (n+19) rm m p hp ho;have f4:=zq7_0 b;have f5:LV.bool (decide (64<((bys b).length:Int)))=LV.bool false:=by simp;omega
 have f6:=zq7_1 m;have f7:=zq7_2 rm p 2 3;have f8:Yk (Zl m p) at_=none:=hk;have f9:LV.bool (if true=true then decide (rm<=((Zl m p).length:Int)) else false)=LV.bool true:=by simp;omega
 have f10:List.length (Zg p)=List.length p:=by simp
 have f11:(LV.ifc 115 (LV.agg [LV.str [98,108,111,99,107],.int i64 at_,LV.ifc 71 (LV.int i64 7)]),St.mk 1 [(0,LObj.box 77 [.int i64 rm,.omap i64 (List.map (·.1) (Zm m)) (List.map (·.2) (Zm m)),.own 88 2 (Zg p)])])=(flt [98,108,111,99,107] at_ 7,St.mk 1 [(0,dO rm m p)]):=by simp
 exact drn (fun h=>ai (f1)<|ai (congrArg LV.bool f2)<|ai (f3)<|ai (f4)<|ai (f5)<|ai (congrArg some f6)<|ai (congrArg some f7)<|ai (f8)<|ai (f9)<|ai (f10)<|f11) (.s (.a) (.s (.s (.r [.a,.f (rOf f1)]) (.a)) (.s (.s (.a) (.b false (.a))) (.s (.r [.a,.f (rOf f3)]) (.s (.s (.d [.y 16 (vOf f4),.y 17 (vOf f5),.x 2 (vOf f6),.x 0 (vOf f7)] [.a,.a,.o (vOf f8),.a,.a,.a,.a,.a,.a,.a,.a] [] [.a,.v (vOf f9) (.a)]) (.a)) .a))))) [] .q (by kernel_rfl)
@[simp] theorem pnds_snocN(p:PL)(at_:Int):Zg p++[.agg [.int .i64 at_,.nils]]=Zg (p++[(at_,none)]):=by simp [Zg,pnd]
theorem free_ok(n:Nat)(at_:Int)(rm:Int)(m:ML)(p:PL)(h0:0<=at_)(h1:at_<=1073741824)(hp:p.length<=1000000):
  Zd prog C0 (Z3 prog C0 (n+20)) (n+20) 58 [.ptr 0 0,.int .i64 at_] ⟨1,[(0,dO rm m p)]⟩=some (.nili,⟨1,[(0,dO rm m (p++[(at_,none)]))]⟩):=by
 have f1:=right_ok (n+10) at_ h0 h1;have f2:1<=1:=by omega
 have f3:List.length (Zg p)=List.length (Zg p)/\(List.length (Zg p)+1)*32<=140737488355328:=by simp;omega
 have f4:LV.sl 2 3 0 (List.length (Zg p)+1) none=LV.sl 2 3 0 (List.length p+1) none:=by simp
 have f5:LObj.row 88 2 (Zg p++List.take 1 (List.drop 0 (List.set [.agg [.int i64 0,.nils]] 0 (LV.agg [.int i64 at_,.nils]))))=LObj.row 88 2 (Zg (p++[(at_,none)])):=by simp
 have f6:LObj.row 88 2 (List.set [.agg [.int i64 0,.nils]] 0 (LV.agg [.int i64 at_,.nils]))=LObj.row 88 2 [.agg [.int i64 at_,.nils]]:=by simp
 have f7:LObj.box 77 [.int i64 rm,.omap i64 (Zn m) (Xl m),.sl 2 1 0 (List.length (Zg p)) none]=LObj.box 77 [.int i64 rm,.omap i64 (Zn m) (Xl m),.sl 2 1 0 (List.length p) none]:=by simp
 have f8:List.length (Zg (p++[(at_,none)]))=List.length p+1:=by simp
 exact drn (fun h=>ai (f1)<|ai (f2)<|ai (f3)<|ai (f4)<|ai (congrArg some f5)<|ai (congrArg some f6)<|ai (congrArg some f7)<|ai (f8)<|h) (.s (.a) (.s (.s (.r [.a,.f (rOf f1)]) (.a)) (.s (.r [.a,.a,.a,.a,.a,.a,.a,.a,.x 0 (vOf f7) (.x 2 (vOf f6) (.x 3 (vOf f5) (.v (vOf f4) (.q))))]) (.a)))) [] .q (by kernel_rfl)
end Go.Mac
