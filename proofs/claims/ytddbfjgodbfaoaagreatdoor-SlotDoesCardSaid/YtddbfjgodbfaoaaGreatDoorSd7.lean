/-
 SlotDoes holds for every input: each call is answered, and both blocks are, as the reference says; the condition is the card's own.
-/
import Derived.Test.YtddbfjgodbfaoaaGreatDoorSd5
import Derived.Test.YtddbfjgodbfaoaaGreatDoorSd6
import Derived.Test.YtddbfjgodbfaoaaGreatDoorProg
import Derived.KernelRfl
set_option linter.unusedVariables false
set_option linter.unusedSimpArgs false
namespace Go.Mac
open Go Go.Eng Go.Proofs
open Go.IntKind (i64)
open Go.Proofs.Tryz (prog)
set_option maxHeartbeats 0
set_option maxRecDepth 100000
theorem right_ok(n:Nat)(at_:Int)(h:0<=at_)(h2:at_<=1073741824):Z6 prog C0 (Z3 prog C0 (n+9)) (n+9) 63 [.int .i64 at_] ⟨0,[]⟩=some (.nili,⟨0,[]⟩):=by
 have f1:decide (at_<0)=false:=by simp;omega
 have f2:LV.bool (if decide (at_<0)=true then true else decide (1073741824<at_))=LV.bool false:=by simp;omega
 exact drn (fun h=>ai (congrArg some f1)<|ai (congrArg some f1)<|ai (f2)<|h) (.s (.a) (.s (.s (.r [.a,.a,.a,.g false (.a),.g false (.a),.v (vOf f2) (.a)]) (.a)) (.a))) [] .a (by kernel_rfl)
theorem whole_ok(n:Nat)(b:List Int):Z6 prog C0 (Z3 prog C0 (n+9)) (n+9) 54 [.isl 1 (bys b)] ⟨0,[]⟩=some (.sl 1 0 0 64 none,⟨1,[(0,.row 5 1 (bys (blk b)))]⟩):=by
 have f1:Yj true 1 (Zo (bys b))=true:=by simp
 have f2:64<=64:=by omega
 have f3:LV.int i64 (↑(min (List.length (Zo (bys b))) 64):Int)=LV.int i64 (↑(min (List.length b) 64):Int):=by simp
 have f4:LObj.row 5 1 (Zr (List.replicate 64 (LV.int IntKind.u8 0)) 0 (List.take (min (List.length (Zo (bys b))) 64) (Zo (bys b))))=LObj.row 5 1 (bys (Ze (List.replicate 64 0) 0 (List.take (min (List.length b) 64) b))):=by simp
 exact drn (fun h=>ai (f1)<|ai (f2)<|ai (f3)<|ai (congrArg some f4)<|h) (.s (.a) (.s (.a) (.s (.r [.a,.a,.x 0 (vOf f4) (.v (vOf f3) (.q))]) (.a)))) [] .a (by kernel_rfl)
theorem bput_some(n:Nat)(at_:Int)(b:List Int)(w:List (Int × LV))(hb:b≠[]):Z6 prog C0 (Z3 prog C0 (n+10)) (n+10) 55 [.map 0,.agg [.int .i64 at_,.isl 1 (bys b)]] ⟨1,[(0,.map .i64 w)]⟩=some (.tup [],⟨1,[(0,.map .i64 (kput w at_ (.isl 1 (bys b))))]⟩):=by
 have f1:List.isEmpty (bys b)=false:=by simp;omega
 exact drn (fun h=>ai (f1)<|h) (.s (.a) (.s (.s (.r [.a,.a,.q]) (.a)) (.a))) [] .a (by kernel_rfl)
theorem bput_none(n:Nat)(at_:Int)(w:List (Int × LV)):Z6 prog C0 (Z3 prog C0 (n+10)) (n+10) 55 [.map 0,.agg [.int .i64 at_,.nils]] ⟨1,[(0,.map .i64 w)]⟩=some (.tup [],⟨1,[(0,.map .i64 (kdel w at_))]⟩):=by
 exact drn (fun h=>h) (.a) [] .a (by kernel_rfl)
def Zt(m:ML)(p:PL):List (Int × LV):=pendN (Zg p) (List.foldl kinc [] (Zn m))
def okP(p:PL):Prop:=∀ x∈p,∀ b,x.2=some b->b≠[]
theorem u8_bys(b:List Int):(bys b).all isU8=true:=by
 rw [List.all_eq_true];intro x hx;obtain ⟨n,_,rfl⟩:=List.mem_map.1 hx
 rfl
theorem okW_pnds:∀ {p:PL},okP p->(Zg p).all okW=true
 | [],_=>rfl
 | (a,none)::p,h=>by
  have:=okW_pnds (p:=p) (fun x hx=>h x (List.mem_cons_of_mem _ hx))
  show (okW (.agg [.int .i64 a,.nils])&&(Zg p).all okW)=true
  rw [this];rfl
 | (a,some [])::p,h=>absurd rfl (h _ List.mem_cons_self [] rfl)
 | (a,some (x::b))::p,h=>by
  have:=okW_pnds (p:=p) (fun x hx=>h x (List.mem_cons_of_mem _ hx))
  show (okW (.agg [.int .i64 a,.isl 1 (bys (x::b))])&&(Zg p).all okW)=true
  rw [this,Bool.and_true];exact u8_bys (x::b)
theorem okBs_mapV(m:ML):(Yl m).all okBs=true:=by
 rw [List.all_eq_true];intro x hx;obtain ⟨y,_,rfl⟩:=List.mem_map.1 hx;exact u8_bys y.2
theorem needs_ok(n:Nat)(rm:Int)(m:ML)(p:PL)(hp:p.length<=1000000)(ho:okP p):
  Z6 prog C0 (Z3 prog C0 n) n 64 [.ptr 0 0] ⟨1,[(0,dO rm m p)]⟩=some (.map 1,⟨2,[(0,dO rm m p),(1,.map .i64 (Zt m p))]⟩):=by
 have X:xNeeds [.ptr 0 0] ⟨1,[(0,dO rm m p)]⟩=some (.map 1,⟨2,[(1,.map .i64 (Zt m p)),(0,dO rm m p)]⟩):=by
  have h1:=okW_pnds ho;have h2:(Zg p).length<=1048576:=by simp;omega
  simp only [xNeeds,St.look,Yr,if_true,h1,h2,and_self,zip_mapKV,mapE_fst,Zt,St.add]
 exact x_runx rfl X (by kernel_rfl)
theorem zq7_0(a0:ML):LObj.map i64 (List.zip (Zn a0) (Yl a0))=LObj.map i64 (Zq a0):=by simp
theorem zq7_1(a0:Int)(a1:PL)(q0:Nat)(q1:Nat):LObj.box 97 [.int i64 a0,.map q0,.sl 2 q1 0 (List.length (Zg a1)) none]=LObj.box 97 [.int i64 a0,.map q0,.sl 2 q1 0 (List.length a1) none]:=by simp
theorem zq7_2(a0:PL)(a1:Int)(a2:List Int):LObj.row 116 2 (Zg a0++List.take 1 (List.drop 0 (List.set [.agg [.int i64 0,.nils]] 0 (LV.agg [.int i64 a1,.isl 1 (bys a2)]))))=LObj.row 116 2 (Zg (a0++[(a1,some a2)])):=by simp
theorem zq7_3(a0:Int)(a1:List Int):LObj.row 116 2 (List.set [.agg [.int i64 0,.nils]] 0 (LV.agg [.int i64 a0,.isl 1 (bys a1)]))=LObj.row 116 2 [.agg [.int i64 a0,.isl 1 (bys a1)]]:=by simp
theorem zq7_5(a0:Int)(a1:ML)(a2:PL)(a3:Int)(a4:List Int):(LV.nili,St.mk 2 [(0,LObj.box 97 [.int i64 a0,.omap i64 (List.map (·.1) (Zq a1)) (List.map (·.2) (Zq a1)),.own 116 2 (Zg (a2++[(a3,some a4)]))]),(1,LObj.row 5 1 (bys a4))])=(LV.nili,St.mk 2 [(0,dO a0 a1 (a2++[(a3,some a4)])),(1,LObj.row 5 1 (bys a4))]):=by simp
theorem writeS_new(n:Nat)(at_:Int)(b:List Int)(rm:Int)(m:ML)(p:PL)(h0:0<=at_)(h1:at_<=1073741824)(hb:b.length=64)(hp:p.length<=1000000)(ho:okP p)(hk:X4 (Zt m p) at_=none)(hr:(Zt m p).length<rm):
  Z6 prog C0 (Z3 prog C0 (n+20)) (n+20) 25 [.ptr 0 0,.int .i64 at_,.sl 1 1 0 64 none] ⟨2,[(0,dO rm m p),(1,.row 5 1 (bys b))]⟩=some (.nili,⟨2,[(0,dO rm m (p++[(at_,some b)])),(1,.row 5 1 (bys b))]⟩):=by
 have f1:=right_ok (n+10) at_ h0 h1;have f2:=needs_ok (n+19) rm m p hp ho;have f3:=zq7_0 m;have f4:=zq7_1 rm p 3 4;have f5:X4 (Zt m p) at_=none:=hk;have f6:LV.bool (if true=true then decide (rm<=((Zt m p).length:Int)) else false)=LV.bool false:=by simp;omega
 have f7:64<=List.length (bys b):=by simp;omega
 have f8:64<=64:=by omega
 have f9:LV.int i64 (↑(min (List.length (List.take 64 (List.drop 0 (bys b)))) 64):Int)=LV.int i64 64:=by simp;omega
 have f10:LObj.row 5 1 (Zr (List.replicate 64 (LV.int IntKind.u8 0)) 0 (List.take (min (List.length (List.take 64 (List.drop 0 (bys b)))) 64) (List.take 64 (List.drop 0 (bys b)))))=LObj.row 5 1 (bys b):=by simp (disch:=first | omega | (simp;omega)) [-List.reduceReplicate]
 have f11:(if 5=5 then if 1=1/\0+64<=List.length (bys b)/\X1 64 none=true then LV.isl 1 (List.take 64 (List.drop 0 (bys b))) else LV.any else LV.sl 1 5 0 64 none)=LV.isl 1 (bys b):=by simp (disch:=first | omega | (simp;omega)) [-List.reduceReplicate,if_pos,if_neg]
 have f12:LV.bool (decide (rm<=((Zt m p).length:Int)))=LV.bool false:=by simp;omega
 have f13:LV.agg [.int i64 at_,if 5=5 then if 1=1/\0+64<=List.length (bys b)/\X1 64 none=true then LV.isl 1 (List.take 64 (List.drop 0 (bys b))) else LV.any else LV.sl 1 5 0 64 none]=LV.agg [.int i64 at_,.isl 1 (bys b)]:=by simp (disch:=first | omega | (simp;omega)) [-List.reduceReplicate,if_pos,if_neg]
 have f14:1<=1:=by omega
 have f15:List.length (Zg p)=List.length p/\(List.length p+1)*32<=140737488355328:=by simp;omega
 have f16:=zq7_2 p at_ b;have f17:=zq7_3 at_ b;have f18:List.length (Zg (p++[(at_,some b)]))=List.length p+1:=by simp
 have f19:=zq7_5 rm m p at_ b;exact drn (fun h=>ai (f1)<|ai (f2)<|ai (congrArg some f3)<|ai (congrArg some f4)<|ai (f5)<|ai (f6)<|ai (f7)<|ai (f8)<|ai (f9)<|ai (congrArg some f10)<|ai (f11)<|ai (f12)<|ai (f11)<|ai (f11)<|ai (f11)<|ai (f13)<|ai (f14)<|ai (f15)<|ai (congrArg some f16)<|ai (congrArg some f17)<|ai (f18)<|f19) (.s (.a) (.s (.s (.r [.a,.f (rOf f1)]) (.a)) (.s (.a) (.s (.r [.a,.f (rOf f2)]) (.s (.s (.d [.x 3 (vOf f3),.x 0 (vOf f4)] [.a,.a,.o (vOf f5),.a,.a,.a,.a,.a,.a,.a,.a] [] [.a,.v (vOf f6) (.a)]) (.a)) (.s (.a) (.s (.r [.a,.a,.x 5 (vOf f10) (.v (vOf f9) (.q))]) (.s (.r [.a,.a,.a,.a,.a,.a,.a,.a,.z [.y 9 (vOf f11),.y 34 (vOf f12),.y 38 (vOf f11),.y 39 (vOf f11),.y 48 (vOf f11),.y 49 (vOf f13)] (.a),.x 6 (vOf f17) (.x 7 (vOf f16) (.q))]) (.a))))))))) [] .q (by kernel_rfl)
theorem writeS_old(n:Nat)(at_:Int)(b:List Int)(rm:Int)(m:ML)(p:PL)(h0:0<=at_)(h1:at_<=1073741824)(hb:b.length=64)(hp:p.length<=1000000)(ho:okP p)(c:Int)(hk:X4 (Zt m p) at_=some (.int .i64 c))(hc:0<c):
  Z6 prog C0 (Z3 prog C0 (n+20)) (n+20) 25 [.ptr 0 0,.int .i64 at_,.sl 1 1 0 64 none] ⟨2,[(0,dO rm m p),(1,.row 5 1 (bys b))]⟩=some (.nili,⟨2,[(0,dO rm m (p++[(at_,some b)])),(1,.row 5 1 (bys b))]⟩):=by
 have f1:=right_ok (n+10) at_ h0 h1;have f2:=needs_ok (n+19) rm m p hp ho;have f3:=zq7_0 m;have f4:=zq7_1 rm p 3 4;have f5:X4 (Zt m p) at_=some (LV.int i64 c):=hk;have f6:decide (c=0)=false:=by simp;omega
 have f7:Xf (decide (c=0)) LV.any (LV.bool false)=some (LV.bool false):=by simp;omega
 have f8:64<=List.length (bys b):=by simp;omega
 have f9:64<=64:=by omega
 have f10:LV.int i64 (↑(min (List.length (List.take 64 (List.drop 0 (bys b)))) 64):Int)=LV.int i64 64:=by simp;omega
 have f11:LObj.row 5 1 (Zr (List.replicate 64 (LV.int IntKind.u8 0)) 0 (List.take (min (List.length (List.take 64 (List.drop 0 (bys b)))) 64) (List.take 64 (List.drop 0 (bys b)))))=LObj.row 5 1 (bys b):=by simp (disch:=first | omega | (simp;omega)) [-List.reduceReplicate]
 have f12:(if 5=5 then if 1=1/\0+64<=List.length (bys b)/\X1 64 none=true then LV.isl 1 (List.take 64 (List.drop 0 (bys b))) else LV.any else LV.sl 1 5 0 64 none)=LV.isl 1 (bys b):=by simp (disch:=first | omega | (simp;omega)) [-List.reduceReplicate,if_pos,if_neg]
 have f13:LV.bool (decide (c=0))=LV.bool false:=by simp;omega
 have f14:LV.agg [.int i64 at_,if 5=5 then if 1=1/\0+64<=List.length (bys b)/\X1 64 none=true then LV.isl 1 (List.take 64 (List.drop 0 (bys b))) else LV.any else LV.sl 1 5 0 64 none]=LV.agg [.int i64 at_,.isl 1 (bys b)]:=by simp (disch:=first | omega | (simp;omega)) [-List.reduceReplicate,if_pos,if_neg]
 have f15:1<=1:=by omega
 have f16:List.length (Zg p)=List.length p/\(List.length p+1)*32<=140737488355328:=by simp;omega
 have f17:=zq7_2 p at_ b;have f18:=zq7_3 at_ b;have f19:List.length (Zg (p++[(at_,some b)]))=List.length p+1:=by simp
 have f20:=zq7_5 rm m p at_ b;exact drn (fun h=>ai (f1)<|ai (f2)<|ai (congrArg some f3)<|ai (congrArg some f4)<|ai (f5)<|ai (congrArg some f6)<|ai (congrArg some f6)<|ai (congrArg some f6)<|ai (congrArg some f6)<|ai (congrArg some f6)<|ai (congrArg some f6)<|ai (congrArg some f6)<|ai (Y3 (st:=(St.mk 5 [(4,LObj.row 116 2 (Zg p)),(3,LObj.map i64 (Zq m)),(0,LObj.box 97 [.int i64 rm,.map 3,.sl 2 4 0 (List.length p) none]),(2,LObj.map i64 (Zt m p)),(1,LObj.row 5 1 (bys b))])) f7)<|ai (f8)<|ai (f9)<|ai (f10)<|ai (congrArg some f11)<|ai (f12)<|ai (f13)<|ai (f13)<|ai (f12)<|ai (f12)<|ai (f12)<|ai (f14)<|ai (f15)<|ai (f16)<|ai (congrArg some f17)<|ai (congrArg some f18)<|ai (f19)<|f20) (.s (.a) (.s (.s (.r [.a,.f (rOf f1)]) (.a)) (.s (.a) (.s (.r [.a,.f (rOf f2)]) (.s (.s (.d [.x 3 (vOf f3),.x 0 (vOf f4)] [.a,.a,.o (vOf f5),.a,.a,.g false (.a),.g false (.a),.g false (.a),.g false (.a),.g false (.a),.g false (.a)] [] [.g false (.a),.t (rOf (Y3 (st:=(St.mk 5 [(4,LObj.row 116 2 (Zg p)),(3,LObj.map i64 (Zq m)),(0,LObj.box 97 [.int i64 rm,.map 3,.sl 2 4 0 (List.length p) none]),(2,LObj.map i64 (Zt m p)),(1,LObj.row 5 1 (bys b))])) f7))]) (.a)) (.s (.a) (.s (.r [.a,.a,.x 5 (vOf f11) (.v (vOf f10) (.q))]) (.s (.r [.a,.a,.a,.a,.a,.a,.a,.a,.z [.y 9 (vOf f12),.y 26 (vOf f13),.y 27 (vOf f13),.y 38 (vOf f12),.y 39 (vOf f12),.y 48 (vOf f12),.y 49 (vOf f14)] (.a),.x 6 (vOf f18) (.x 7 (vOf f17) (.q))]) (.a))))))))) [] .q (by kernel_rfl)
theorem Yy(n:Nat)(rm:Int)(m:ML)(p:PL):Z6 prog C0 (Z3 prog C0 (n+10)) (n+10) 23 [.ptr 0 0] ⟨1,[(0,dO rm m p)]⟩=some (.int .i64 p.length,⟨1,[(0,dO rm m p)]⟩):=by
 have f1:List.length (Zg p)=List.length (Zg p):=by omega
 have f2:(LV.int i64 ((Zg p).length:Int),St.mk 1 [(0,LObj.box 97 [.int i64 rm,.omap i64 (Zn m) (Yl m),.own 116 2 (Zg p)])])=(LV.int i64 (p.length:Int),St.mk 1 [(0,dO rm m p)]):=by simp
 exact drn (fun h=>ai (f1)<|f2) (.a) [] .q (by kernel_rfl)
theorem new_ok(n:Nat)(r:Int)(h0:0<=r)(h1:r<=1073741824):Z6 prog C0 (Z3 prog C0 (n+10)) (n+10) 8 [.int .i64 r] ⟨0,[]⟩=some (.tup [.ptr 0 0,.nili],⟨1,[(0,dO r [] [])]⟩):=by
 have f1:decide (r<0)=false:=by simp;omega
 have f2:LV.bool (if decide (r<0)=true then true else decide (1073741824<r))=LV.bool false:=by simp;omega
 exact drn (fun h=>ai (congrArg some f1)<|ai (congrArg some f1)<|ai (f2)<|h) (.s (.a) (.s (.s (.r [.a,.a,.a,.g false (.a),.g false (.a),.v (vOf f2) (.a)]) (.a)) (.a))) [] .a (by kernel_rfl)
def stepN(n c:Int):Int:=bits BinOp.or IntKind.u64 (IntKind.u64.wrap (n*256)) (IntKind.u64.wrap c)
theorem sput_looseO(n:Nat)(at_ tn:Int)(w:List Int)(lo:Bool)(rm:Int)(m:ML)(p:PL)(v:List Int)(hv:v.length<=47)(hl:lo=true):Z6 prog C0 (Z3 prog C0 (n+40)) (n+40) 13 [.ptr 0 0,.isl 1 (bys v)] ⟨2,[(0,sO at_ tn (vO w) lo),(1,dO rm m p)]⟩ =
  some (.ifc 155 (.agg [.str [116,117,114,110],.int .i64 tn,.ifc 40 (.int .i64 10)]),⟨2,[(0,sO at_ tn (vO w) lo),(1,dO rm m p)]⟩):=by
 have f1:decide (47<((bys v).length:Int))=false:=by simp;omega
 have f2:lo=true:=hl;exact drn (fun h=>ai (congrArg LV.bool f1)<|ai (congrArg LV.bool f2)<|h) (.s (.a) (.s (.k (.s (.a) (.b false (.s (.a) (.b true (.a)))))) .a)) [] .a (by kernel_rfl)
theorem sput_looseI(n:Nat)(at_ tn:Int)(w:List Int)(lo:Bool)(rm:Int)(m:ML)(p:PL)(v:List Int)(hv:v.length<=47)(hl:lo=true):Z6 prog C0 (Z3 prog C0 (n+40)) (n+40) 13 [.ptr 0 0,.isl 1 (bys v)] ⟨2,[(0,sO at_ tn (vI w) lo),(1,dO rm m p)]⟩ =
  some (.ifc 155 (.agg [.str [116,117,114,110],.int .i64 tn,.ifc 40 (.int .i64 10)]),⟨2,[(0,sO at_ tn (vI w) lo),(1,dO rm m p)]⟩):=by
 have f1:decide (47<((bys v).length:Int))=false:=by simp;omega
 have f2:lo=true:=hl;exact drn (fun h=>ai (congrArg LV.bool f1)<|ai (congrArg LV.bool f2)<|h) (.s (.a) (.s (.k (.s (.a) (.b false (.s (.a) (.b true (.a)))))) .a)) [] .a (by kernel_rfl)
def enc(t:Int)(v:List Int):List Int:=
 Ze (((((((((((((((((( List.replicate 64 0).set 7 t).set 63 t).set 6 0).set 62 0).set 5 0).set 61 0).set 4 0).set 60 0).set 3 0).set 59 0).set 2 0).set 58 0).set 1 0).set 57 0).set 0 0).set 56 0).set 8 (v.length:Int)) 9 v
theorem zq7_6(a0:List Int)(q0:Nat):LV.sl 1 q0 0 (Int.toNat ((bys a0).length:Int)) none=LV.sl 1 q0 0 (List.length a0) none:=by simp
theorem zq7_7(a0:List Int):LObj.row 5 1 (List.replicate (Int.toNat ((bys a0).length:Int)) (LV.int IntKind.u8 0))=LObj.row 5 1 (bys (List.replicate (List.length a0) 0)):=by simp
theorem zq7_8(a0:List Int):0+List.length a0<=List.length (bys (List.replicate (List.length a0) 0)):=by simp
theorem zq7_9(a0:List Int)(q0:Nat):(if q0=q0 then if 1=1/\0+List.length a0<=List.length (bys a0)/\X1 (List.length a0) none=true then LV.isl 1 (List.take (List.length a0) (List.drop 0 (bys a0))) else LV.any else LV.sl 1 q0 0 (List.length a0) none)=LV.isl 1 (bys a0):=by simp
theorem Wd(n:Nat)(at_ tn:Int)(w:List Int)(lo:Bool)(rm:Int)(m:ML)(p:PL)(hw:w.length<=1000):Z6 prog C0 (Z3 prog C0 (n+60)) (n+60) 20 [.ptr 0 0] ⟨2,[(0,sO at_ tn (vO w) lo),(1,dO rm m p)]⟩ =
  some (.isl 1 (bys w),⟨2,[(0,sO at_ tn (vO w) lo),(1,dO rm m p)]⟩):=by
 have f1:0<=((bys w).length:Int)/\((bys w).length:Int)<=((bys w).length:Int)/\1*((bys w).length:Int)<=281474976710656:=by simp;omega
 have f2:=zq7_6 w 3;have f3:=zq7_7 w;have f4:LObj.box 106 [.ptr 1 0,.int i64 at_,.int i64 tn,.sl 1 2 0 (List.length (bys w)) none,.bool lo]=LObj.box 106 [.ptr 1 0,.int i64 at_,.int i64 tn,.sl 1 2 0 (List.length w) none,.bool lo]:=by simp
 have f5:0+List.length w<=List.length (bys w):=by simp
 have f6:=zq7_8 w;have f7:LV.int i64 (↑(min (List.length (List.take (List.length w) (List.drop 0 (bys w)))) (List.length w)):Int)=LV.int i64 (w.length:Int):=by simp
 have f8:LObj.row 5 1 (Zr (bys (List.replicate (List.length w) 0)) 0 (List.take (min (List.length (List.take (List.length w) (List.drop 0 (bys w)))) (List.length w)) (List.take (List.length w) (List.drop 0 (bys w)))))=LObj.row 5 1 (bys w):=by simp
 have f9:=zq7_9 w 3;have f10:List.length (bys w)=List.length w:=by simp
 exact drn (fun h=>ai (f1)<|ai (f2)<|ai (congrArg some f3)<|ai (congrArg some f4)<|ai (f5)<|ai (f6)<|ai (f7)<|ai (congrArg some f8)<|ai (f9)<|ai (f10)<|h) (.s (.a) (.s (.r [.a,.a,.a,.a,.a,.x 0 (vOf f4) (.x 3 (vOf f3) (.v (vOf f2) (.q)))]) (.s (.r [.a,.a,.a,.a,.a,.x 3 (vOf f8) (.v (vOf f7) (.q))]) (.a)))) [.y 0 (vOf f9)] .q (by kernel_rfl)
theorem V7(n:Nat)(at_ tn:Int)(w:List Int)(lo:Bool)(rm:Int)(m:ML)(p:PL):Z6 prog C0 (Z3 prog C0 (n+60)) (n+60) 18 [.ptr 0 0] ⟨2,[(0,sO at_ tn (vO w) lo),(1,dO rm m p)]⟩ =
  some (.int .i64 tn,⟨2,[(0,sO at_ tn (vO w) lo),(1,dO rm m p)]⟩):=by
 exact drn (fun h=>h) (.a) [] .a (by kernel_rfl)
theorem zq7_10(a0:List Int):LV.int i64 (↑(min (List.length (Zo (bys a0))) (List.length a0)):Int)=LV.int i64 (a0.length:Int):=by simp
theorem zq7_11(a0:List Int):LObj.row 5 1 (Zr (bys (List.replicate (List.length a0) 0)) 0 (List.take (min (List.length (Zo (bys a0))) (List.length a0)) (Zo (bys a0))))=LObj.row 5 1 (bys a0):=by simp
theorem value_okI(n:Nat)(at_ tn:Int)(w:List Int)(lo:Bool)(rm:Int)(m:ML)(p:PL)(hw:w.length<=1000):Z6 prog C0 (Z3 prog C0 (n+60)) (n+60) 20 [.ptr 0 0] ⟨2,[(0,sO at_ tn (vI w) lo),(1,dO rm m p)]⟩ =
  some (.isl 1 (bys w),⟨2,[(0,sO at_ tn (vI w) lo),(1,dO rm m p)]⟩):=by
 have f1:0<=((bys w).length:Int)/\((bys w).length:Int)<=((bys w).length:Int)/\1*((bys w).length:Int)<=281474976710656:=by simp;omega
 have f2:=zq7_6 w 2;have f3:=zq7_7 w;have f4:Yj true 1 (Zo (bys w))=true:=by simp
 have f5:=zq7_8 w;have f6:=zq7_10 w;have f7:=zq7_11 w;have f8:=zq7_9 w 2;exact drn (fun h=>ai (f1)<|ai (f2)<|ai (congrArg some f3)<|ai (f4)<|ai (f5)<|ai (f6)<|ai (congrArg some f7)<|ai (f8)<|h) (.s (.a) (.s (.r [.a,.a,.a,.a,.a,.x 2 (vOf f3) (.v (vOf f2) (.q))]) (.s (.r [.a,.a,.a,.a,.a,.x 2 (vOf f7) (.v (vOf f6) (.q))]) (.a)))) [.y 0 (vOf f8)] .a (by kernel_rfl)
theorem turn_okI(n:Nat)(at_ tn:Int)(w:List Int)(lo:Bool)(rm:Int)(m:ML)(p:PL):Z6 prog C0 (Z3 prog C0 (n+60)) (n+60) 18 [.ptr 0 0] ⟨2,[(0,sO at_ tn (vI w) lo),(1,dO rm m p)]⟩ =
  some (.int .i64 tn,⟨2,[(0,sO at_ tn (vI w) lo),(1,dO rm m p)]⟩):=by
 exact drn (fun h=>h) (.a) [] .a (by kernel_rfl)
theorem clone_ok(n:Nat)(m:ML):Z6 prog C0 (Z3 prog C0 (n+5)) (n+5) 53 [.map 0] ⟨1,[(0,.map .i64 (Zq m))]⟩=some (.map 1,⟨2,[(0,.map .i64 (Zq m)),(1,.map .i64 (Zq m))]⟩):=by
 exact drn (fun h=>h) (.a) [] .a (by kernel_rfl)
abbrev aE(p:PL)(i:Int):LEnv:=[.any,.any,.any,.map 3,.any,.any,.any,.any,.any,.any,.any,.any,.any,.any,
  LV.sl 2 2 0 p.length none,.int i64 p.length,.int i64 i,.any,.any,.any,
  .any,.any,.any,.any,.any]
abbrev aS(rm:Int)(m:ML)(p:PL)(w:List (Int × LV)):St:=⟨4,[(0,LObj.box 97 [.int i64 rm,.map 1,.sl 2 2 0 p.length none]),
    (1,LObj.map i64 (Zq m)),(2,LObj.row 116 2 (Zg p)),
    (3,LObj.map i64 w)]⟩
abbrev aX(p:PL)(i:Int):LEnv:=[.any,.any,.any,.map 3,.any,.any,.any,.any,.any,.any,.any,.any,.any,.any,
  LV.sl 2 2 0 p.length none,.int i64 p.length,.int i64 i,.bool (decide (i<p.length)),.any,.any,
  .any,.any,.any,.any,.any]
theorem after_end(n fu:Nat)(rm:Int)(m:ML)(p:PL)(w:List (Int × LV))(i:Int)(hi:p.length<=i):Z2 prog C0 (n+40) 69 0 1 (fu+1) (aE p i) (aS rm m p w)=some (.exit 0,aX p i,aS rm m p w):=by
 have f1:decide (i<(p.length:Int))=false:=by simp;omega
 exact dlp (fun h=>ai (congrArg LV.bool f1)<|h) (.i (.s (.a) (.s (.b false (.a)) .a)) (.a)) (by kernel_rfl)
theorem zq7_12(a0:Int)(q0:Nat):LV.pel q0 2 (0+a0.toNat) 0=LV.pel q0 2 (a0.toNat) 0:=by simp
theorem after_some(n fu:Nat)(rm:Int)(m:ML)(p:PL)(w:List (Int × LV))(i:Int)(h0:0<=i)(hi:i<p.length)(hp:p.length<=100000)(a:Int)(b:List Int)(hb:b≠[])(hx:(Zg p)[i.toNat]? = some (.agg [.int .i64 a,.isl 1 (bys b)]))(r:LX × LEnv × St)(hr:Z2 prog C0 (n+40) 69 0 1 fu (aE p (i+1)) (aS rm m p (kput w a (.isl 1 (bys b))))=some r):Z2 prog C0 (n+40) 69 0 1 (fu+1) (aE p i) (aS rm m p w)=some r:=by
 have f1:decide (i<(p.length:Int))=true:=by simp;omega
 have f2:0<=i/\i<(p.length:Int):=by omega
 have f3:=zq7_12 i 2;have f4:(Zg p)[i.toNat]? = some (LV.agg [.int i64 a,.isl 1 (bys b)]):=hx;have f5:=bput_some (n+29) a b w hb;have f6:LV.int i64 (IntKind.wrap i64 (i+1))=LV.int i64 (i+1):=by simp (disch:=omega)
 have f7:=hr;exact dlp (fun h=>ai (congrArg LV.bool f1)<|ai (f2)<|ai (f3)<|ai (f4)<|ai (f5)<|ai (f6)<|ai (Eq.refl (Z9 f7))<|ai (f7)<|h) (.i (.s (.a) (.s (.b true (.a)) (.s (.k (.s (.r [.v (vOf f3) (.q),.e (rOf f4)]) (.r [.a,.a,.f (rOf f5)]))) (.r [.v (vOf f6) (.a)])))) (.h [] (eOf f7) (Zp f7) (rOf f7))) (by kernel_rfl)
theorem after_none(n fu:Nat)(rm:Int)(m:ML)(p:PL)(w:List (Int × LV))(i:Int)(h0:0<=i)(hi:i<p.length)(hp:p.length<=100000)(a:Int)(hx:(Zg p)[i.toNat]? = some (.agg [.int .i64 a,.nils]))(r:LX × LEnv × St)(hr:Z2 prog C0 (n+40) 69 0 1 fu (aE p (i+1)) (aS rm m p (kdel w a))=some r):Z2 prog C0 (n+40) 69 0 1 (fu+1) (aE p i) (aS rm m p w)=some r:=by
 have f1:decide (i<(p.length:Int))=true:=by simp;omega
 have f2:0<=i/\i<(p.length:Int):=by omega
 have f3:=zq7_12 i 2;have f4:(Zg p)[i.toNat]? = some (LV.agg [.int i64 a,.nils]):=hx;have f5:=bput_none (n+29) a w;have f6:LV.int i64 (IntKind.wrap i64 (i+1))=LV.int i64 (i+1):=by simp (disch:=omega)
 have f7:=hr;exact dlp (fun h=>ai (congrArg LV.bool f1)<|ai (f2)<|ai (f3)<|ai (f4)<|ai (f5)<|ai (f6)<|ai (Eq.refl (Z9 f7))<|ai (f7)<|h) (.i (.s (.a) (.s (.b true (.a)) (.s (.k (.s (.r [.v (vOf f3) (.q),.e (rOf f4)]) (.r [.a,.a,.f (rOf f5)]))) (.r [.v (vOf f6) (.a)])))) (.h [] (eOf f7) (Zp f7) (rOf f7))) (by kernel_rfl)
def applyP:PL->List (Int × LV)->List (Int × LV)
 | [],w=>w
 | (a,some b)::q,w=>applyP q (kput w a (.isl 1 (bys b)))
 | (a,none)::q,w=>applyP q (kdel w a)
theorem after_loop(n:Nat)(rm:Int)(m:ML)(p:PL)(hp:p.length<=100000)(hb:∀ x∈p,∀ b,x.2=some b->b≠[]):∀ (q:PL) (i:Int) (w:List (Int × LV)) (fu:Nat),
  0<=i->p.drop i.toNat=q->q.length<fu->Z2 prog C0 (n+40) 69 0 1 fu (aE p i) (aS rm m p w)=some (.exit 0,aX p (i+q.length),aS rm m p (applyP q w))
 | [],i,w,fu,h0,hd,hf=>by
  obtain ⟨k,rfl⟩:∃ k,fu=k+1:=⟨fu-1,by simp at hf;omega⟩
  have:p.length<=i.toNat:=by simpa using hd
  rw [after_end n k rm m p w i (by omega)]
  simp [applyP]
 | x::q,i,w,fu,h0,hd,hf=>by
  obtain ⟨k,rfl⟩:∃ k,fu=k+1:=⟨fu-1,by simp at hf;omega⟩
  have hlt:i.toNat<p.length:=by
   apply Classical.byContradiction;intro h;rw [List.drop_of_length_le (by omega)] at hd;simp at hd
  have hx:p[i.toNat]? = some x:=by
   have:=congrArg List.head? hd;simpa [List.head?_drop] using this
  have hd2:p.drop (i+1).toNat=q:=by
   have e:(i+1).toNat=i.toNat+1:=by omega
   rw [e,<- List.drop_drop,hd];rfl
  have ih:=fun w'=>after_loop n rm m p hp hb q (i+1) w' k (by omega) hd2 (by simp at hf;omega)
  have hxl:(Zg p)[i.toNat]? = some (pnd x):=by simp only [Zg,List.getElem?_map,hx,Option.map_some]
  have hlen:i+1+(q.length:Int)=i+((x::q).length:Int):=by simp;omega
  obtain ⟨a,ob⟩:=x
  cases ob with
  | some b =>
   rw [after_some n k rm m p w i h0 (by omega) hp a b (hb (a,some b) (List.mem_of_getElem? hx) b rfl) hxl _ (ih _),hlen]
   rfl
  | none =>
   rw [after_none n k rm m p w i h0 (by omega) hp a hxl _ (ih _),hlen]
   rfl
def mput:ML->Int->List Int->ML
 | [],n,x=>[(n,x)]
 | (k,v)::l,n,x=>if k=n then (n,x)::l else if n<k then (n,x)::(k,v)::l else (k,v)::mput l n x
def mdel:ML->Int->ML
 | [],_=>[]
 | (k,v)::l,n=>if k=n then l else (k,v)::mdel l n
theorem after_ok(n:Nat)(rm:Int)(m:ML)(p:PL)(hp:p.length<=100000)(hn:p.length<=n)(hb:∀ x∈p,∀ b,x.2=some b->b≠[]):
  Z6 prog C0 (Z3 prog C0 (n+40)) (n+40) 69 [.ptr 0 0] ⟨1,[(0,dO rm m p)]⟩=some (.map 1,⟨2,[(0,dO rm m p),(1,.map .i64 (applyP p (Zq m)))]⟩):=by
 have L:=after_loop n rm m p hp hb p 0;have f1:=zq7_0 m;have f2:=clone_ok (n+34) m;have f3:LV.sl 2 2 0 (List.length (Zg p)) none=LV.sl 2 2 0 (List.length p) none:=by simp
 have f4:LV.int i64 ((Zg p).length:Int)=LV.int i64 (p.length:Int):=by simp
 have f5:=zq7_1 rm p 1 2;have f6:=L (Zq m) (n+40) (by omega) (by simp) (by omega)
 have f7:List.length (Zg p)=List.length p:=by simp
 have f8:(LV.map 1,St.mk 2 [(0,LObj.box 97 [.int i64 rm,.omap i64 (List.map (·.1) (Zq m)) (List.map (·.2) (Zq m)),.own 116 2 (Zg p)]),(1,LObj.map i64 (applyP p (Zq m)))])=(LV.map 1,St.mk 2 [(0,dO rm m p),(1,LObj.map i64 (applyP p (Zq m)))]):=by simp
 exact drn (fun h=>ai (congrArg some f1)<|ai (f2)<|ai (f3)<|ai (f4)<|ai (congrArg some f5)<|ai (Eq.refl (Z9 f6))<|ai (f6)<|ai (f7)<|f8) (.s (.a) (.s (.r [.a,.a,.a,.x 1 (vOf f1) (.a),.f (rOf f2)]) (.s (.s (.a) (.k (.l (.h [.y 14 (vOf f3),.y 15 (vOf f4),.x 0 (vOf f5)] (eOf f6) (Zp f6) (rOf f6))))) (.a)))) [] .q (by kernel_rfl)
theorem dsync_ok(n:Nat)(rm:Int)(m m':ML)(p:PL)(hp:p.length<=100000)(hn:p.length<=n)(hb:∀ x∈p,∀ b,x.2=some b->b≠[])(hm:applyP p (Zq m)=Zq m'):
  Z6 prog C0 (Z3 prog C0 (n+41)) (n+41) 27 [.ptr 0 0] ⟨1,[(0,dO rm m p)]⟩=some (.tup [],⟨1,[(0,dO rm m' [])]⟩):=by
 have A:=after_ok n rm m p hp hn hb;have f1:=A
 have f2:(LV.tup [],St.mk 1 [(0,LObj.box 97 [.int i64 rm,.omap i64 (List.map (·.1) (applyP p (Zq m))) (List.map (·.2) (applyP p (Zq m))),.own 116 2 []])])=(LV.tup [],St.mk 1 [(0,dO rm m' [])]):=by simp (disch:=omega) [-List.reduceReplicate,hp,hn,hm,A]
 exact drn (fun h=>ai (f1)<|f2) (.s (.r [.a,.a,.f (rOf f1)]) (.a)) [] .q (by kernel_rfl)
def lastW(at_:Int):PL->Option (Option (List Int))
 | []=>none
 | (a,b)::l=>match lastW at_ l with
  | some x=>some x
  | none=>if a=at_ then some b else none
def mget:ML->Int->Option (List Int)
 | [],_=>none
 | (k,v)::l,n=>if k=n then some v else mget l n
def rd(m:ML)(p:PL)(at_:Int):List Int:=
 match lastW at_ p with
 | some (some b)=>blk b
 | some none=>blk []
 | none=>match mget m at_ with
  | some b=>blk b
  | none=>blk []
theorem lastOf_pnds(at_:Int):∀ p,lastOf at_ (Zg p)=(lastW at_ p).map fun o=>match o with | some b=>LV.isl 1 (bys b) | none=>.nils
 | []=>rfl
 | (a,ob)::p=>by
  have ih:=lastOf_pnds at_ p
  show lastOf at_ (pnd (a,ob)::Zg p)=_
  simp only [pnd,lastOf,ih,lastW]
  cases lastW at_ p with
  | some x=>rfl
  | none =>
   simp only [Option.map_none]
   split
   ·cases ob <;> rfl
   ·rfl
theorem kget_mapE(at_:Int):∀ m,X4 (Zq m) at_=(mget m at_).map fun b=>LV.isl 1 (bys b)
 | []=>rfl
 | (k,b)::m=>by
  have ih:=kget_mapE at_ m
  show X4 ((k,.isl 1 (bys b))::Zq m) at_=_
  simp only [X4,mget,ih]
  split <;> rfl
theorem blk_padS(b:List Int):(b++List.replicate 64 0).take 64=blk b:=by
 unfold blk Ze
 rcases Nat.lt_or_ge b.length 64 with h | h
 ·rw [Nat.min_eq_left (by omega),List.take_of_length_le (Nat.le_refl _),List.take_append,List.take_of_length_le (by omega),List.take_replicate,List.take_zero,List.nil_append,Nat.zero_add,List.drop_replicate,Nat.min_eq_left (by omega)]
 ·rw [Nat.min_eq_right h,List.take_append_of_le_length h,List.take_zero,List.nil_append,Nat.zero_add,List.length_take,Nat.min_eq_left h,List.drop_replicate]
  simp
theorem pad64_bys(b:List Int):pad64 (.isl 1 (bys b))=.isl 1 (bys (blk b)):=by
 rw [<- blk_padS];simp [pad64,bys]
theorem pad64_nils:pad64 .nils=.isl 1 (bys (blk [])):=by
 rw [<- blk_padS];simp [pad64,bys]
theorem xRead_ok(rm:Int)(m:ML)(p:PL)(at_:Int)(h0:0<=at_)(h1:at_<=1073741824)(hp:p.length<=1000000)(ho:okP p):
  xRead [.ptr 0 0,.int .i64 at_] ⟨1,[(0,dO rm m p)]⟩=some (.tup [.isl 1 (bys (rd m p at_)),.nili],⟨1,[(0,dO rm m p)]⟩):=by
 have g1:=okW_pnds ho;have g2:(Zg p).length<=1048576:=by simp;omega
 simp only [xRead,St.look,Yr,if_true,g1,g2,okBs_mapV,and_self];rw [if_neg (by omega),lastOf_pnds,zip_mapKV,kget_mapE]
 unfold rd
 cases lastW at_ p with
 | some o=>cases o <;> simp only [Option.map_some,pad64_bys,pad64_nils]
 | none =>
  simp only [Option.map_none]
  cases mget m at_ <;> simp only [Option.map_some,Option.map_none,pad64_bys,pad64_nils]
theorem Xl(n:Nat)(rm:Int)(m:ML)(p:PL)(at_:Int)(h0:0<=at_)(h1:at_<=1073741824)(hp:p.length<=1000000)(ho:okP p):
  Z6 prog C0 (Z3 prog C0 n) n 47 [.ptr 0 0,.int .i64 at_] ⟨1,[(0,dO rm m p)]⟩=some (.tup [.isl 1 (bys (rd m p at_)),.nili],⟨1,[(0,dO rm m p)]⟩):=by
 have X:=xRead_ok rm m p at_ h0 h1 hp ho;exact x_runx rfl X (by kernel_rfl)
theorem Zk(m:ML)(p:PL)(at_:Int):(rd m p at_).length=64:=by
 unfold rd
 repeat' split
 all_goals simp
def ints(b:List Int):List LV:=b.map (LV.int .i64)
@[simp] theorem ints_length(b:List Int):(ints b).length=b.length:=by simp [ints]
@[simp high] theorem ints_get(b:List Int)(i:Nat)(h:i<b.length):(ints b)[i]? = some (.int .i64 (atI b i)):=by simp [ints,h,atI]
@[simp] theorem pnds_one(x:Int × Option (List Int)):Zg [x]=[pnd x]:=rfl
@[simp] theorem pnd_some(a:Int)(b:List Int):pnd (a,some b)=.agg [.int .i64 a,.isl 1 (bys b)]:=rfl
theorem zq7_14(a0:Int)(a1:ML):(LV.tup [],St.mk 1 [(0,LObj.box 97 [.int i64 a0,.omap i64 (List.map (·.1) (Zq a1)) (List.map (·.2) (Zq a1)),.own 116 2 []])])=(LV.tup [],St.mk 1 [(0,dO a0 a1 [])]):=by simp
theorem crash_nil(n:Nat)(rm:Int)(m:ML)(ks:List Int)(cut:Int):
  Z6 prog C0 (Z3 prog C0 (n+60)) (n+60) 16 [.ptr 0 0,.isl 1 (ints ks),.int .i64 cut] ⟨1,[(0,dO rm m [])]⟩=some (.tup [],⟨1,[(0,dO rm m [])]⟩):=by
 have f1:=zq7_0 m;have f2:=clone_ok (n+54) m;have f3:=zq7_14 rm m;exact drn (fun h=>ai (congrArg some f1)<|ai (f2)<|f3) (.s (.a) (.s (.a) (.s (.r [.a,.a,.a,.x 2 (vOf f1) (.a),.f (rOf f2)]) (.a)))) [] .q (by kernel_rfl)
@[simp] theorem lsplice_none(l:List LV):Zr l 0 []=l:=by simp [Zr]
theorem zq7_15(a0:Int)(a1:List Int):LV.isl 1 (List.drop 0 (List.take (Int.toNat (Option.getD (some a0) ((bys a1).length:Int))) (bys a1)))=LV.isl 1 (bys (List.take (a0.toNat) a1)):=by simp
theorem zq7_16:LObj.row 5 1 (Zr (List.replicate 64 (LV.int IntKind.u8 0)) 0 [])=LObj.row 5 1 (bys (List.replicate 64 0)):=by simp
theorem zq7_17(a0:Int)(a1:List Int):Yj true 1 (Zo (bys (List.take (a0.toNat) a1)))=true:=by simp
theorem crash_torn0(n:Nat)(rm:Int)(m m':ML)(a:Int)(b:List Int)(hb:b.length=64)(ks:List Int)(hk:0<ks.length)(hk2:¬ atI ks 0=0)(cut:Int)(h0:0<=cut)(h1:cut<64)(hg:X4 (Zq m) a=none)(hm:kput (Zq m) a (.isl 1 (bys (Ze (List.replicate 64 0) 0 (b.take cut.toNat))))=Zq m'):
  Z6 prog C0 (Z3 prog C0 (n+60)) (n+60) 16 [.ptr 0 0,.isl 1 (ints ks),.int .i64 cut] ⟨1,[(0,dO rm m [(a,some b)])]⟩=some (.tup [],⟨1,[(0,dO rm m' [])]⟩):=by
 have hb2:b≠[]:=by intro h;subst h;simp at hb
 have f1:decide (0<((ints ks).length:Int))=true:=by simp;omega
 have f2:(ints ks)[0]? = some (LV.int i64 (atI ks 0)):=by simp (disch:=omega)
 have f3:(0:Int)<=(0:Int)/\(0:Int)<((ints ks).length:Int):=by simp;omega
 have f4:LObj.row 116 2 (Zg [(a,some b)])=LObj.row 116 2 [.agg [.int i64 a,.isl 1 (bys b)]]:=by simp
 have f5:LV.bool (if decide (0<((ints ks).length:Int))=true then !decide (atI ks 0=0) else false)=LV.bool true:=by simp;omega
 have f6:=zq7_0 m;have f7:=clone_ok (n+54) m;have f8:LV.bool (if false=true then true else decide (atI ks 0=0))=LV.bool false:=by simp;omega
 have f9:List.isEmpty (bys b)=false:=by simp;omega
 have f10:LV.bool (if true=true then decide (0<=cut) else false)=LV.bool true:=by simp;omega
 have f11:LV.bool (if true=true then decide (cut<64) else false)=LV.bool true:=by simp;omega
 have f12:X4 (Zq m) a=none:=hg;have f13:Z6 prog C0 (Z3 prog C0 (n+59)) (n+59) 54 [.nils] (St.mk 0 [])=some (LV.sl 1 0 0 64 none,St.mk 1 [(0,LObj.row 5 1 (Zr (List.replicate 64 (LV.int IntKind.u8 0)) 0 []))]):=by kernel_rfl
 have f14:(0:Int)<=(0:Int)/\(0:Int)<=Option.getD (some cut) ((bys b).length:Int)/\Option.getD (some cut) ((bys b).length:Int)<=((bys b).length:Int):=by simp;omega
 have f15:=zq7_15 cut b;have f16:=zq7_16;have f17:=zq7_17 cut b;have f18:64<=64:=by omega
 have f19:LV.int i64 (↑(min (List.length (Zo (bys (List.take (cut.toNat) b)))) 64):Int)=LV.int i64 (max cut 0):=by simp (disch:=omega)
 have f20:LObj.row 5 1 (Zr (bys (List.replicate 64 0)) 0 (List.take (min (List.length (Zo (bys (List.take (cut.toNat) b)))) 64) (Zo (bys (List.take (cut.toNat) b)))))=LObj.row 5 1 (bys (Ze (List.replicate 64 0) 0 (List.take (cut.toNat) b))):=by simp (disch:=first | omega | (simp;omega)) [-List.reduceReplicate]
 have f21:LV.agg [.int i64 a,if 1=1 then if 1=1/\0+64<=List.length (bys (Ze (List.replicate 64 0) 0 (List.take (cut.toNat) b)))/\X1 64 none=true then LV.isl 1 (List.take 64 (List.drop 0 (bys (Ze (List.replicate 64 0) 0 (List.take (cut.toNat) b))))) else LV.any else LV.sl 1 1 0 64 none]=LV.agg [.int i64 a,.isl 1 (bys (Ze (List.replicate 64 0) 0 (List.take (cut.toNat) b)))]:=by simp (disch:=first | omega | (simp;omega)) [-List.reduceReplicate]
 have f22:(if 1=1 then if 1=1/\0+64<=List.length (bys (Ze (List.replicate 64 0) 0 (List.take (cut.toNat) b)))/\X1 64 none=true then LV.isl 1 (List.take 64 (List.drop 0 (bys (Ze (List.replicate 64 0) 0 (List.take (cut.toNat) b))))) else LV.any else LV.sl 1 1 0 64 none)=LV.isl 1 (bys (Ze (List.replicate 64 0) 0 (List.take (cut.toNat) b))):=by simp (disch:=first | omega | (simp;omega)) [-List.reduceReplicate]
 have f23:LObj.box 116 [.int i64 a,if 1=1 then if 1=1/\0+64<=List.length (bys (Ze (List.replicate 64 0) 0 (List.take (cut.toNat) b)))/\X1 64 none=true then LV.isl 1 (List.take 64 (List.drop 0 (bys (Ze (List.replicate 64 0) 0 (List.take (cut.toNat) b))))) else LV.any else LV.sl 1 1 0 64 none]=LObj.box 116 [.int i64 a,.isl 1 (bys (Ze (List.replicate 64 0) 0 (List.take (cut.toNat) b)))]:=by simp (disch:=first | omega | (simp;omega)) [-List.reduceReplicate]
 have f24:Z6 prog C0 (Z3 prog C0 (n+59)) (n+59) 55 [.map 0,.agg [.int i64 a,.sl 1 1 0 64 none]] (St.mk 2 [(0,LObj.map i64 (Zq m)),(1,LObj.row 5 1 (bys (Ze (List.replicate 64 0) 0 (List.take (cut.toNat) b))))])=some (LV.tup [],St.mk 2 [(0,LObj.map i64 (kput (Zq m) a (LV.isl 1 (bys (Ze (List.replicate 64 0) 0 (List.take (cut.toNat) b))))))]):=drn (fun h=>ai (f21)<|ai (f22)<|ai (f22)<|ai (congrArg some f23)<|h) (.s (.a) (.s (.a) (.r [.a,.a,.a,.a,.a,.z [.y 1 (vOf f21),.y 5 (vOf f22),.y 14 (vOf f22),.x 2 (vOf f23)] (.a)]))) [] .a (by kernel_rfl)
 have f25:(LV.tup [],St.mk 1 [(0,LObj.box 97 [.int i64 rm,.omap i64 (List.map (·.1) (kput (Zq m) a (LV.isl 1 (bys (Ze (List.replicate 64 0) 0 (List.take (cut.toNat) b)))))) (List.map (·.2) (kput (Zq m) a (LV.isl 1 (bys (Ze (List.replicate 64 0) 0 (List.take (cut.toNat) b)))))),.own 116 2 []])])=(LV.tup [],St.mk 1 [(0,dO rm m' [])]):=by simp (disch:=omega) [-List.reduceReplicate,hb,hk,hk2,h0,h1,hg,hm,hb2]
 exact drn (fun h=>ai (congrArg some f1)<|ai (congrArg some f1)<|ai (congrArg some f1)<|ai (f3)<|ai (f2)<|ai (congrArg some f4)<|ai (congrArg some f1)<|ai (congrArg some f1)<|ai (f5)<|ai (congrArg some f6)<|ai (f7)<|ai (f3)<|ai (f2)<|ai (f8)<|ai (f9)<|ai (f10)<|ai (f11)<|ai (f12)<|ai (f13)<|ai (f14)<|ai (f15)<|ai (congrArg some f16)<|ai (f17)<|ai (f18)<|ai (f19)<|ai (congrArg some f20)<|ai (f24)<|f25) (.s (.a) (.s (.s (.a) (.k (.l (.i (.s (.a) (.s (.a) (.s (.k (.s (.a) (.s (.r [.a,.a,.a,.a,.a,.g true (.a),.g true (.a),.g true (.x 1 (vOf f4) (.e (rOf f2))),.g true (.a),.g true (.a),.v (vOf f5) (.a)]) (.a)))) (.a)))) (.a))))) (.s (.r [.a,.a,.a,.x 2 (vOf f6) (.a),.f (rOf f7)]) (.s (.s (.a) (.k (.l (.i (.s (.a) (.s (.a) (.s (.k (.s (.a) (.s (.s (.r [.a,.a,.a,.a,.a,.a,.e (rOf f2),.a,.a,.v (vOf f8) (.a)]) (.a)) (.s (.s (.r [.a,.a,.a,.a,.a,.a,.q,.a,.a,.a,.a,.v (vOf f10) (.a),.a,.a,.a,.v (vOf f11) (.a)]) (.c (.s (.r [.a,.a,.a,.o (vOf f12),.f (rOf f13)]) (.s (.r [.a,.a,.a,.a,.x 5 (vOf f16) (.v (vOf f15) (.q)),.x 5 (vOf f20) (.v (vOf f19) (.q))]) (.a))))) (.r [.a,.a,.f (rOf f24)]))))) (.a)))) (.a))))) (.a))))) [] .q (by kernel_rfl)
def keysOk(l:List (Int × LV)):Prop:=ascB (l.map (·.1))=true/\(∀ x∈l,-9223372036854775808<=x.1/\x.1<=9223372036854775807)/\l.length<=1000000
theorem sorted_ok(n:Nat)(l:List (Int × LV))(h:keysOk l):
  Z6 prog C0 (Z3 prog C0 n) n 60 [.fn 93 [] [.ptr 0 0]] ⟨2,[(0,.box 94 [.map 1]),(1,.map .i64 l)]⟩=some (.isl 1 (ints (l.map (·.1))),⟨2,[(0,.box 94 [.map 1]),(1,.map .i64 l)]⟩):=by
 obtain ⟨ha,hw,hn⟩:=h
 have hz3:(l.all fun x=>decide (-9223372036854775808<=x.1)&&decide (x.1<=9223372036854775807))=true:=by
  rw [List.all_eq_true];intro x hx;have:=hw x hx;simp [this.1,this.2]
 have X:xSorted [.fn 93 [] [.ptr 0 0]] ⟨2,[(0,.box 94 [.map 1]),(1,.map .i64 l)]⟩=some (.isl 1 (ints (l.map (·.1))),⟨2,[(0,.box 94 [.map 1]),(1,.map .i64 l)]⟩):=by
  show (if (93:Nat)=93/\ascB (l.map (·.1))=true/\(l.all fun x=>decide (-9223372036854775808<=x.1)&&decide (x.1<=9223372036854775807))=true/\l.length<=1000000 then some (LV.isl 1 ((l.map (·.1)).map (LV.int .i64)),(⟨2,[(0,.box 94 [.map 1]),(1,.map .i64 l)]⟩:St)) else none)=_
  rw [if_pos ⟨rfl,ha,hz3,hn⟩]
  rfl
 exact x_runx rfl X (by kernel_rfl)
abbrev ceE(ks:List Int)(l:LV)(i:Int):LEnv:=[.ptr 0 0,.any,.any,l,.any,.any,.any,.any,.any,.any,.any,
  LV.isl 1 (ints ks),.int i64 ks.length,.int i64 i,.any,.any,.any,.any,.any,.any,.any,
  .any,.any,.any,.any,.any,.any,.any,.any,.any,.any]
abbrev ceS(rm:Int)(m:ML)(p:PL):St:=⟨2,[(0,LObj.box 97 [.int i64 rm,.map 1,.own 116 2 (Zg p)]),(1,LObj.map i64 (Zq m))]⟩
theorem zq7_18(a0:List Int)(q0:Nat):(if q0=q0 then if 1=1/\0+64<=List.length (bys (blk a0))/\X1 64 none=true then LV.isl 1 (List.take 64 (List.drop 0 (bys (blk a0)))) else LV.any else LV.sl 1 q0 0 64 none)=LV.isl 1 (bys (blk a0)):=by simp
theorem cl_step0(n fu:Nat)(rm:Int)(m:ML)(p:PL)(ks:List Int)(hl:ks.length<=1000000)(hk:0<ks.length)(b:List Int)(hg:X4 (Zq m) (atI ks 0)=some (.isl 1 (bys b)))(r:LX × LEnv × St)(hr:Z2 prog C0 (n+60) 22 0 1 fu (ceE ks (.sl 2 2 0 1 none) 1) ⟨3,[(0,LObj.box 97 [.int i64 rm,.map 1,.own 116 2 (Zg p)]),(1,LObj.map i64 (Zq m)),(2,.row 126 2 [.agg [.int .i64 (atI ks 0),.isl 1 (bys (blk b))]])]⟩=some r):
  Z2 prog C0 (n+60) 22 0 1 (fu+1) (ceE ks .nils 0) (ceS rm m p)=some r:=by
 have f1:decide (0<(ks.length:Int))=true:=by simp;omega
 have f2:(ints ks)[0]? = some (LV.int i64 (atI ks 0)):=by simp (disch:=omega)
 have f3:(0:Int)<=(0:Int)/\(0:Int)<((ints ks).length:Int):=by simp;omega
 have f4:X4 (Zq m) (atI ks 0)=some (LV.isl 1 (bys b)):=hg;have f5:=whole_ok (n+50) b;have f6:LV.bool (decide (0<(ks.length:Int)))=LV.bool true:=by simp;omega
 have f7:=zq7_18 b 2;have f8:LV.agg [.int i64 (atI ks 0),if 2=2 then if 1=1/\0+64<=List.length (bys (blk b))/\X1 64 none=true then LV.isl 1 (List.take 64 (List.drop 0 (bys (blk b)))) else LV.any else LV.sl 1 2 0 64 none]=LV.agg [.int i64 (atI ks 0),.isl 1 (bys (blk b))]:=by simp
 have f9:LObj.row 126 2 (List.take 1 (List.drop 0 (List.set [.agg [.int i64 0,.nils]] 0 (LV.agg [.int i64 (atI ks 0),.isl 1 (bys (blk b))]))))=LObj.row 126 2 [.agg [.int i64 (atI ks 0),.isl 1 (bys (blk b))]]:=by simp
 have f10:=hr;exact dlp (fun h=>ai (congrArg LV.bool f1)<|ai (f3)<|ai (f2)<|ai (f4)<|ai (f5)<|ai (f6)<|ai (f7)<|ai (f8)<|ai (congrArg some f9)<|ai (Eq.refl (Z9 f10))<|ai (f10)<|h) (.i (.s (.a) (.s (.b true (.a)) (.s (.k (.s (.r [.e (rOf f2)]) (.r [.a,.a,.a,.a,.a,.a,.a,.o (vOf f4),.f (rOf f5),.a,.z [.y 14 (vOf f6),.y 25 (vOf f7),.y 26 (vOf f8)] (.a)]))) (.a)))) (.h [.x 2 (vOf f9)] (eOf f10) (Zp f10) (rOf f10))) (by kernel_rfl)
abbrev ceT(rm:Int)(m:ML)(p:PL)(cs:List LV):St:=⟨3,[(0,LObj.box 97 [.int i64 rm,.map 1,.own 116 2 (Zg p)]),(1,LObj.map i64 (Zq m)),(2,.row 126 2 cs)]⟩
theorem cl_step(n fu:Nat)(rm:Int)(m:ML)(p:PL)(ks:List Int)(hl:ks.length<=1000000)(k:Nat)(h0:0<k)(hk:k<ks.length)(b:List Int)(hg:X4 (Zq m) (atI ks k)=some (.isl 1 (bys b)))(cs:List LV)(hcs:cs.length=k)(r:LX × LEnv × St)(hr:Z2 prog C0 (n+60) 22 0 1 fu (ceE ks (.sl 2 2 0 (k+1) none) ((k:Int)+1)) (ceT rm m p (cs++[.agg [.int .i64 (atI ks k),.isl 1 (bys (blk b))]]))=some r):
  Z2 prog C0 (n+60) 22 0 1 (fu+1) (ceE ks (.sl 2 2 0 k none) k) (ceT rm m p cs)=some r:=by
 have e1:(ints ks)[k]? = some (.int .i64 (atI ks k)):=by simp [hk]
 have f1:decide ((↑k:Int)<(ks.length:Int))=true:=by simp;omega
 have f2:(ints ks)[Int.toNat (↑k:Int)]? = some (LV.int i64 (atI ks k)):=by simp (disch:=omega)
 have f3:0<=(↑k:Int)/\(↑k:Int)<((ints ks).length:Int):=by simp;omega
 have f4:X4 (Zq m) (atI ks k)=some (LV.isl 1 (bys b)):=hg;have f5:=whole_ok (n+50) b;have f6:LV.bool (decide ((↑k:Int)<(ks.length:Int)))=LV.bool true:=by simp;omega
 have f7:=zq7_18 b 3;have f8:LV.agg [.int i64 (atI ks k),if 3=3 then if 1=1/\0+64<=List.length (bys (blk b))/\X1 64 none=true then LV.isl 1 (List.take 64 (List.drop 0 (bys (blk b)))) else LV.any else LV.sl 1 3 0 64 none]=LV.agg [.int i64 (atI ks k),.isl 1 (bys (blk b))]:=by simp
 have f9:1<=1:=by omega
 have f10:List.length cs=k/\(k+1)*32<=140737488355328:=by omega
 have f11:LObj.row 126 2 (cs++List.take 1 (List.drop 0 (List.set [.agg [.int i64 0,.nils]] 0 (LV.agg [.int i64 (atI ks k),.isl 1 (bys (blk b))]))))=LObj.row 126 2 (cs++[.agg [.int i64 (atI ks k),.isl 1 (bys (blk b))]]):=by simp
 have f12:LObj.row 126 2 (List.set [.agg [.int i64 0,.nils]] 0 (LV.agg [.int i64 (atI ks k),.isl 1 (bys (blk b))]))=LObj.row 126 2 [.agg [.int i64 (atI ks k),.isl 1 (bys (blk b))]]:=by simp
 have f13:LV.int i64 (IntKind.wrap i64 ((↑k:Int)+1))=LV.int i64 ((↑k:Int)+1):=by simp (disch:=omega)
 have f14:=hr;exact dlp (fun h=>ai (congrArg LV.bool f1)<|ai (f3)<|ai (f2)<|ai (f4)<|ai (f5)<|ai (f6)<|ai (f7)<|ai (f8)<|ai (f9)<|ai (f10)<|ai (congrArg some f11)<|ai (congrArg some f12)<|ai (f13)<|ai (Eq.refl (Z9 f14))<|ai (f14)<|h) (.i (.s (.a) (.s (.b true (.a)) (.s (.k (.s (.r [.e (rOf f2)]) (.r [.a,.a,.a,.a,.a,.a,.a,.o (vOf f4),.f (rOf f5),.a,.z [.y 14 (vOf f6),.y 25 (vOf f7),.y 26 (vOf f8)] (.a),.x 4 (vOf f12) (.x 5 (vOf f11) (.q))]))) (.r [.v (vOf f13) (.a)])))) (.h [] (eOf f14) (Zp f14) (rOf f14))) (by kernel_rfl)
abbrev ceX(ks:List Int)(l:LV)(i:Int):LEnv:=[.ptr 0 0,.any,.any,l,.any,.any,.any,.any,.any,.any,.any,
  LV.isl 1 (ints ks),.int i64 ks.length,.int i64 i,.bool (decide (i<ks.length)),.any,.any,.any,.any,.any,.any,
  .any,.any,.any,.any,.any,.any,.any,.any,.any,.any]
theorem cl_end(n fu:Nat)(rm:Int)(m:ML)(p:PL)(ks:List Int)(hl:ks.length<=1000000)(k:Nat)(h0:0<k)(hk:ks.length<=k)(cs:List LV):
  Z2 prog C0 (n+60) 22 0 1 (fu+1) (ceE ks (.sl 2 2 0 k none) k) (ceT rm m p cs)=some (.exit 0,ceX ks (.sl 2 2 0 k none) k,ceT rm m p cs):=by
 have f1:decide ((↑k:Int)<(ks.length:Int))=false:=by simp;omega
 exact dlp (fun h=>ai (congrArg LV.bool f1)<|h) (.i (.s (.a) (.s (.b false (.a)) .a)) (.a)) (by kernel_rfl)
def cellL(x:Int × List Int):LV:=.agg [.int .i64 x.1,.isl 1 (bys (blk x.2))]
def Xw(m:ML):List LV:=m.map cellL
@[simp] theorem cellsL_length(m:ML):(Xw m).length=m.length:=by simp [Xw]
theorem cells_thru(n:Nat)(rm:Int)(m:ML)(p:PL)(ho:keysOk (Zq m))(h0:0<m.length)(k:Nat)(hk:k=m.length)(L:Z2 prog C0 (n+60) 22 0 1 (n+60) (ceE (Zn m) .nils 0) (ceS rm m p)=some (.exit 0,ceX (Zn m) (.sl 2 2 0 k none) k,ceT rm m p (Xw m))):
  Z6 prog C0 (Z3 prog C0 (n+60)) (n+60) 22 [.ptr 0 0] ⟨1,[(0,dO rm m p)]⟩=some (.isl 2 (Xw m),⟨1,[(0,dO rm m p)]⟩):=by
 have S:=fun n=>sorted_ok n (Zq m) ho
 have hE:(Xw m).take m.length=Xw m:=List.take_of_length_le (by simp)
 have f1:=zq7_0 m;have f2:=S (n+59);have f3:LV.isl 1 (ints (List.map (·.1) (Zq m)))=LV.isl 1 (ints (Zn m)):=by simp
 have f4:LV.int i64 ((ints (Zn m)).length:Int)=LV.int i64 ((Zn m).length:Int):=by simp
 have f5:=L
 have f6:(if 2=2 then if 2=2/\0+k<=List.length (Xw m)/\X1 k none=true then LV.isl 2 (List.take k (List.drop 0 (Xw m))) else LV.any else LV.sl 2 2 0 k none)=LV.isl 2 (Xw m):=by simp (disch:=omega) [-List.reduceReplicate,ho,h0,hk,L,S,hE]
 have f7:(LV.isl 2 (Xw m),St.mk 1 [(0,LObj.box 97 [.int i64 rm,.omap i64 (List.map (·.1) (Zq m)) (List.map (·.2) (Zq m)),.own 116 2 (Zg p)])])=(LV.isl 2 (Xw m),St.mk 1 [(0,dO rm m p)]):=by simp
 exact drn (fun h=>ai (congrArg some f1)<|ai (f2)<|ai (f3)<|ai (f4)<|ai (Eq.refl (Z9 f5))<|ai (f5)<|ai (f6)<|f7) (.s (.a) (.s (.a) (.s (.s (.r [.a,.a,.a,.x 1 (vOf f1) (.a),.a,.v (vOf f3) (.f (rOf f2))]) (.k (.l (.h [.y 12 (vOf f4)] (eOf f5) (Zp f5) (rOf f5))))) (.a)))) [.y 0 (vOf f6)] .q (by kernel_rfl)
theorem cells_none(n:Nat)(rm:Int)(p:PL):
  Z6 prog C0 (Z3 prog C0 (n+60)) (n+60) 22 [.ptr 0 0] ⟨1,[(0,dO rm [] p)]⟩=some (.isl 2 [],⟨1,[(0,dO rm [] p)]⟩):=by
 have S:∀ n,Z6 prog C0 (Z3 prog C0 n) n 60 [.fn 93 [] [.ptr 0 0]] ⟨2,[(0,.box 94 [.map 1]),(1,.map .i64 [])]⟩=some (.isl 1 [],⟨2,[(0,.box 94 [.map 1]),(1,.map .i64 [])]⟩):=fun n=>sorted_ok n [] ⟨rfl,by simp,by simp⟩
 have f1:=S (n+59);exact drn (fun h=>ai (f1)<|h) (.s (.a) (.s (.a) (.s (.s (.r [.a,.a,.a,.a,.a,.f (rOf f1)]) (.a)) (.a)))) [] .a (by kernel_rfl)
theorem ascB_lt:∀ {l:List Int},ascB l=true->l.Pairwise (fun a b=>a<b)
 | [],_=>.nil
 | [_],_=>.cons (by simp) .nil
 | a::b::l,h=>by
  simp only [ascB,Bool.and_eq_true,decide_eq_true_eq] at h;have ih:=ascB_lt h.2;refine .cons (fun c hc=>?_) ih
  rcases List.mem_cons.1 hc with rfl | hc
  ·omega
  ·have:=(List.pairwise_cons.1 ih).1 c hc
   omega
theorem mget_at:∀ {m:ML} {k:Nat} {a:Int} {b:List Int},ascB (Zn m)=true->m[k]? = some (a,b)->mget m a=some b
 | [],_,_,_,_,h=>by simp at h
 | (c,d)::m,0,a,b,_,h=>by
  have h:(c,d)=(a,b):=by simpa using h
  cases h
  simp [mget]
 | (c,d)::m,k+1,a,b,ha,h=>by
  have h:m[k]? = some (a,b):=by simpa using h
  have hp:=ascB_lt ha;have hp:(c::Zn m).Pairwise (fun a b=>a<b):=hp
  have hlt:c<a:=(List.pairwise_cons.1 hp).1 a (List.mem_map.2 ⟨(a,b),List.mem_of_getElem? h,rfl⟩);have ha2:ascB (Zn m)=true:=by
   cases m with
   | nil=>rfl
   | cons x m =>
    have ha:(decide (c<x.1)&&ascB (Zn (x::m)))=true:=ha;simp only [Bool.and_eq_true] at ha;exact ha.2
  have ih:=mget_at ha2 h;have:¬ c=a:=by omega
  simp [mget,this,ih]
theorem keysOk_asc{m:ML}(h:keysOk (Zq m)):ascB (Zn m)=true:=by
 have:=h.1
 rwa [mapE_fst] at this
theorem cells_loop(n:Nat)(rm:Int)(m:ML)(p:PL)(ho:keysOk (Zq m)):∀ (q k fu:Nat),0<k->k+q=m.length->q<fu ->
  Z2 prog C0 (n+60) 22 0 1 fu (ceE (Zn m) (.sl 2 2 0 k none) k) (ceT rm m p (Xw (m.take k)))=some (.exit 0,ceX (Zn m) (.sl 2 2 0 m.length none) m.length,ceT rm m p (Xw m))
 | 0,k,fu,h0,hk,hf=>by
  obtain ⟨fu,rfl⟩:∃ k,fu=k+1:=⟨fu-1,by omega⟩
  have e:k=m.length:=by omega
  have hl:(Zn m).length=m.length:=by simp [Zn]
  have hb:=ho.2.2;have hb:m.length<=1000000:=by simpa [Zq] using hb
  have:=cl_end n fu rm m p (Zn m) (by omega) k h0 (by omega) (Xw (m.take k))
  rw [this];subst e;rw [List.take_length]
 | q+1,k,fu,h0,hk,hf=>by
  obtain ⟨fu,rfl⟩:∃ k,fu=k+1:=⟨fu-1,by omega⟩
  have hl:(Zn m).length=m.length:=by simp [Zn]
  have hb:=ho.2.2;have hb:m.length<=1000000:=by simpa [Zq] using hb
  have hlt:k<m.length:=by omega
  have hx:m[k]? = some m[k]:=List.getElem?_eq_getElem hlt;have ha:atI (Zn m) k=m[k].1:=by
   unfold atI;rw [List.getD_eq_getElem?_getD];simp [Zn,hx]
  have hg:X4 (Zq m) (atI (Zn m) k)=some (.isl 1 (bys m[k].2)):=by
   rw [ha,kget_mapE,mget_at (keysOk_asc ho) (show m[k]? = some (m[k].1,m[k].2) from hx)]
   rfl
  have ih:=cells_loop n rm m p ho q (k+1) fu (by omega) (by omega) (by omega)
  have et:Xw (m.take (k+1))=Xw (m.take k)++[.agg [.int .i64 (atI (Zn m) k),.isl 1 (bys (blk m[k].2))]]:=by
   rw [ha];unfold Xw;rw [List.take_add_one,hx,List.map_append]
   rfl
  rw [et] at ih;refine cl_step n fu rm m p (Zn m) (by omega) k h0 (by omega) _ hg _ (by simp;omega) _ ?_
  exact ih
theorem cells_ok(n:Nat)(rm:Int)(m:ML)(p:PL)(ho:keysOk (Zq m))(hn:m.length<n+60):
  Z6 prog C0 (Z3 prog C0 (n+60)) (n+60) 22 [.ptr 0 0] ⟨1,[(0,dO rm m p)]⟩=some (.isl 2 (Xw m),⟨1,[(0,dO rm m p)]⟩):=by
 cases m with
 | nil=>exact cells_none n rm p
 | cons x m =>
  have hb:=ho.2.2;have hb:(x::m).length<=1000000:=by simpa [Zq] using hb
  refine cells_thru n rm (x::m) p ho (by simp) (x::m).length rfl ?_
  have L:=cells_loop n rm (x::m) p ho m.length 1 (n+59) (by omega) (by simp;omega) (by simp at hn;omega)
  refine cl_step0 n (n+59) rm (x::m) p (Zn (x::m)) (by simpa [Zn] using hb) (by simp [Zn]) x.2 (by
   show X4 ((x.1,.isl 1 (bys x.2))::Zq m) x.1=_
   simp [X4]) _ ?_
  exact L
abbrev flt(op:List UInt8)(a c:Int):LV:=.ifc 155 (.agg [.str op,.int .i64 a,.ifc 40 (.int .i64 c)])
@[simp] theorem pnds_snocN(p:PL)(at_:Int):Zg p++[.agg [.int .i64 at_,.nils]]=Zg (p++[(at_,none)]):=by simp [Zg,pnd]
theorem zq7_19(a0:Int)(a1:ML)(a2:PL):LObj.box 97 [.int i64 a0,.omap i64 (Zn a1) (Yl a1),.sl 2 1 0 (List.length (Zg a2)) none]=LObj.box 97 [.int i64 a0,.omap i64 (Zn a1) (Yl a1),.sl 2 1 0 (List.length a2) none]:=by simp
theorem free_ok(n:Nat)(at_:Int)(rm:Int)(m:ML)(p:PL)(h0:0<=at_)(h1:at_<=1073741824)(hp:p.length<=1000000):
  Z6 prog C0 (Z3 prog C0 (n+20)) (n+20) 80 [.ptr 0 0,.int .i64 at_] ⟨1,[(0,dO rm m p)]⟩=some (.nili,⟨1,[(0,dO rm m (p++[(at_,none)]))]⟩):=by
 have f1:=right_ok (n+10) at_ h0 h1;have f2:1<=1:=by omega
 have f3:List.length (Zg p)=List.length (Zg p)/\(List.length (Zg p)+1)*32<=140737488355328:=by simp;omega
 have f4:LV.sl 2 3 0 (List.length (Zg p)+1) none=LV.sl 2 3 0 (List.length p+1) none:=by simp
 have f5:LObj.row 116 2 (Zg p++List.take 1 (List.drop 0 (List.set [.agg [.int i64 0,.nils]] 0 (LV.agg [.int i64 at_,.nils]))))=LObj.row 116 2 (Zg (p++[(at_,none)])):=by simp
 have f6:LObj.row 116 2 (List.set [.agg [.int i64 0,.nils]] 0 (LV.agg [.int i64 at_,.nils]))=LObj.row 116 2 [.agg [.int i64 at_,.nils]]:=by simp
 have f7:=zq7_19 rm m p;have f8:List.length (Zg (p++[(at_,none)]))=List.length p+1:=by simp
 exact drn (fun h=>ai (f1)<|ai (f2)<|ai (f3)<|ai (f4)<|ai (congrArg some f5)<|ai (congrArg some f6)<|ai (congrArg some f7)<|ai (f8)<|h) (.s (.a) (.s (.s (.r [.a,.f (rOf f1)]) (.a)) (.s (.r [.a,.a,.a,.a,.a,.a,.a,.a,.x 0 (vOf f7) (.x 2 (vOf f6) (.x 3 (vOf f5) (.v (vOf f4) (.q))))]) (.a)))) [] .q (by kernel_rfl)
theorem dread_bad(n:Nat)(at_:Int)(rm:Int)(m:ML)(p:PL)(h:at_<0∨1073741824<at_)(hp:p.length<=1000000)(ho:okP p):
  Z6 prog C0 (Z3 prog C0 (n)) (n) 47 [.ptr 0 0,.int .i64 at_] ⟨1,[(0,dO rm m p)]⟩=some (.tup [.isl 1 [],flt [98,108,111,99,107] at_ 2],⟨1,[(0,dO rm m p)]⟩):=by
 have X:xRead [.ptr 0 0,.int .i64 at_] ⟨1,[(0,dO rm m p)]⟩=some (.tup [.nils,flt [98,108,111,99,107] at_ 2],⟨1,[(0,dO rm m p)]⟩):=by
  have g1:=okW_pnds ho;have g2:(Zg p).length<=1048576:=by simp;omega
  simp only [xRead,St.look,Yr,if_true,g1,g2,okBs_mapV,and_self];rw [if_pos h]
 exact x_runx rfl X (by kernel_rfl)
theorem of_nil(n:Nat):Z6 prog C0 (Z3 prog C0 (n+20)) (n+20) 11 [.nili] ⟨0,[]⟩=some (.int .i64 0,⟨0,[]⟩):=by
 exact drn (fun h=>h) (.a) [] .a (by kernel_rfl)
theorem of_code(n:Nat)(op:List UInt8)(a c:Int):Z6 prog C0 (Z3 prog C0 (n+20)) (n+20) 11 [flt op a c] ⟨0,[]⟩=some (.int .i64 c,⟨0,[]⟩):=by
 exact drn (fun h=>h) (.a) [] .a (by kernel_rfl)
theorem or_byte{n c:Int}(h0:0<=n)(h1:n<72057594037927936)(c0:0<=c)(c1:c<256):stepN n c=n*256+c:=by
 obtain ⟨a,rfl⟩:=Int.eq_ofNat_of_zero_le h0;obtain ⟨d,rfl⟩:=Int.eq_ofNat_of_zero_le c0;have e1:IntKind.u64.wrap ((a:Int)*256)=((a*256:Nat):Int):=by
  unfold IntKind.wrap;simp [IntKind.bits,IntKind.signed];omega
 have e2:IntKind.u64.wrap (d:Int)=(d:Int):=by
  unfold IntKind.wrap;simp [IntKind.bits,IntKind.signed];omega
 unfold stepN bits;rw [e1,e2];simp only [BitVec.ofInt_natCast];have h3:(BitVec.ofNat 64 (a*256) ||| BitVec.ofNat 64 d).toNat=a*256+d:=by
  rw [BitVec.toNat_or,BitVec.toNat_ofNat,BitVec.toNat_ofNat,Nat.mod_eq_of_lt (by omega),Nat.mod_eq_of_lt (by omega)]
  have:=Nat.shiftLeft_add_eq_or_of_lt (a:=a) (b:=d) (i:=8) (by omega)
  rw [Nat.shiftLeft_eq] at this;exact this.symm
 change IntKind.u64.wrap (((BitVec.ofNat 64 (a*256) ||| BitVec.ofNat 64 d).toNat:Nat):Int)=_
 rw [h3];unfold IntKind.wrap;simp [IntKind.bits,IntKind.signed];omega
def numF(b:List Int):Int:=((((((atI b 0*256+atI b 1)*256+atI b 2)*256+atI b 3)*256+atI b 4)*256+atI b 5)*256+atI b 6)*256+atI b 7
def byB(b:List Int):Prop:=∀ x∈b,0<=x/\x<256
theorem Yw{b:List Int}(h:byB b)(i:Nat):0<=atI b i/\atI b i<256:=by
 unfold atI;rw [List.getD_eq_getElem?_getD]
 cases hx:b[i]? with
 | none=>simp
 | some x=>exact h x (List.mem_of_getElem? hx)
def numS(b:List Int):Int:=stepN (stepN (stepN (stepN (stepN (stepN (stepN (stepN 0 (atI b 0)) (atI b 1)) (atI b 2)) (atI b 3)) (atI b 4)) (atI b 5)) (atI b 6)) (atI b 7)
theorem numS_F{b:List Int}(h:byB b):numS b=numF b:=by
 have h0:=Yw h 0;have h1:=Yw h 1;have h2:=Yw h 2;have h3:=Yw h 3;have h4:=Yw h 4;have h5:=Yw h 5;have h6:=Yw h 6;have h7:=Yw h 7;unfold numS numF;have e0:stepN 0 (atI b 0)=atI b 0:=by rw [or_byte (by omega) (by omega) h0.1 h0.2];omega
 rw [e0,or_byte h0.1 (by omega) h1.1 h1.2,or_byte (by omega) (by omega) h2.1 h2.2,or_byte (by omega) (by omega) h3.1 h3.2,or_byte (by omega) (by omega) h4.1 h4.2,or_byte (by omega) (by omega) h5.1 h5.2,or_byte (by omega) (by omega) h6.1 h6.2,or_byte (by omega) (by omega) h7.1 h7.2]
theorem numF_lt{b:List Int}(h:byB b):0<=numF b/\numF b<18446744073709551616:=by
 have h0:=Yw h 0;have h1:=Yw h 1;have h2:=Yw h 2;have h3:=Yw h 3;have h4:=Yw h 4;have h5:=Yw h 5;have h6:=Yw h 6;have h7:=Yw h 7;unfold numF;omega
def numB(b:List Int):Int:=if 1152921504606846976<numF b then 0 else numF b
theorem numB_le{b:List Int}(h:byB b):0<=numB b/\numB b<=1152921504606846976:=by
 have:=numF_lt h;unfold numB
 split <;> omega
theorem byB.drop{b:List Int}(h:byB b)(n:Nat):byB (b.drop n):=fun x hx=>h x (List.mem_of_mem_drop hx)
theorem byB.take{b:List Int}(h:byB b)(n:Nat):byB (b.take n):=fun x hx=>h x (List.mem_of_mem_take hx)
theorem byB.app{a b:List Int}(h:byB a)(k:byB b):byB (a++b):=fun x hx=>(List.mem_append.1 hx).elim (h x) (k x)
theorem byB.rep(n:Nat):byB (List.replicate n 0):=fun x hx=>by rw [(List.mem_replicate.1 hx).2];omega
abbrev nmE(X:List Int)(c i:Int):LEnv:=[.any,.any,.any,.int IntKind.u64 c,.any,.any,.any,.isl 1 (bys X),.int i64 8,.int i64 i,.any,.any,.any,.any,.any,.any,.any,.any,.any,.any,.any,.any,.any]
abbrev nmX(X:List Int)(c:Int):LEnv:=[.any,.any,.any,.int IntKind.u64 c,.any,.any,.any,.isl 1 (bys X),.int i64 8,.int i64 8,.bool false,.any,.any,.any,.any,.any,.any,.any,.any,.any,.any,.any,.any]
theorem nm_end(n fu:Nat)(X:List Int)(c:Int):Z2 prog C0 (n+20) 84 0 0 (fu+1) (nmE X c 8) ⟨0,[]⟩=some (.exit 0,nmX X c,⟨0,[]⟩):=by
 exact dlp (fun h=>h) (.a) (by kernel_rfl)
theorem nm_step(n fu:Nat)(X:List Int)(hX:X.length=8)(c i:Int)(h0:0<=i)(h1:i<8)(r:LX × LEnv × St)(hr:Z2 prog C0 (n+20) 84 0 0 fu (nmE X (bits BinOp.or IntKind.u64 (IntKind.u64.wrap (c*256)) (IntKind.u64.wrap (atI X i.toNat))) (i+1)) ⟨0,[]⟩=some r):
  Z2 prog C0 (n+20) 84 0 0 (fu+1) (nmE X c i) ⟨0,[]⟩=some r:=by
 have f1:decide (i<8)=true:=by simp;omega
 have f2:(bys X)[i.toNat]? = some (LV.int IntKind.u8 (atI X (i.toNat))):=by simp (disch:=omega)
 have f3:0<=i/\i<((bys X).length:Int):=by simp;omega
 have f4:LV.bool (decide (i<8))=LV.bool true:=by simp;omega
 have f5:LV.int i64 (IntKind.wrap i64 (i+1))=LV.int i64 (i+1):=by simp (disch:=omega)
 have f6:=hr;exact dlp (fun h=>ai (congrArg LV.bool f1)<|ai (f3)<|ai (f2)<|ai (f4)<|ai (f5)<|ai (Eq.refl (Z9 f6))<|ai (f6)<|h) (.i (.s (.a) (.s (.b true (.a)) (.s (.k (.s (.r [.e (rOf f2)]) (.r [.a,.a,.z [.y 10 (vOf f4)] (.a)]))) (.r [.v (vOf f5) (.a)])))) (.h [] (eOf f6) (Zp f6) (rOf f6))) (by kernel_rfl)
theorem nm_loop(n:Nat)(X:List Int)(hX:X.length=8):Z2 prog C0 (n+20) 84 0 0 (n+20) (nmE X 0 0) ⟨0,[]⟩=some (.exit 0,nmX X (numS X),⟨0,[]⟩):=by
 iterate 8 refine nm_step n _ X hX _ _ (by omega) (by omega) _ ?_
 exact nm_end n _ X _
theorem number_le(n:Nat)(b:List Int)(hb:8<=b.length)(c:Int)(h0:0<=c)(h:c<=1152921504606846976)(L:Z2 prog C0 (n+20) 84 0 0 (n+20) (nmE (b.take 8) 0 0) ⟨0,[]⟩=some (.exit 0,nmX (b.take 8) c,⟨0,[]⟩)):Z6 prog C0 (Z3 prog C0 (n+20)) (n+20) 84 [.isl 1 (bys b)] ⟨0,[]⟩=some (.int .i64 c,⟨0,[]⟩):=by
 have f1:(0:Int)<=(0:Int)/\(0:Int)<=Option.getD (some (8:Int)) ((bys b).length:Int)/\Option.getD (some (8:Int)) ((bys b).length:Int)<=((bys b).length:Int):=by simp;omega
 have f2:LV.isl 1 (List.drop 0 (List.take 8 (bys b)))=LV.isl 1 (bys (List.take 8 b)):=by simp
 have f3:LV.int i64 ((bys (List.take 8 b)).length:Int)=LV.int i64 8:=by simp (disch:=omega)
 have f4:=L
 have f5:decide (1152921504606846976<c)=false:=by simp;omega
 have f6:LV.int i64 (IntKind.wrap i64 c)=LV.int i64 c:=by simp (disch:=omega)
 exact drn (fun h=>ai (f1)<|ai (f2)<|ai (f3)<|ai (Eq.refl (Z9 f4))<|ai (f4)<|ai (congrArg LV.bool f5)<|ai (f6)<|h) (.s (.a) (.s (.a) (.s (.s (.r [.a,.v (vOf f2) (.q)]) (.k (.l (.h [.y 8 (vOf f3)] (eOf f4) (Zp f4) (rOf f4))))) (.s (.s (.a) (.b false (.a))) (.s (.r [.a,.v (vOf f6) (.a)]) (.a)))))) [] .a (by kernel_rfl)
theorem number_gt(n:Nat)(b:List Int)(hb:8<=b.length)(c:Int)(h:1152921504606846976<c)(L:Z2 prog C0 (n+20) 84 0 0 (n+20) (nmE (b.take 8) 0 0) ⟨0,[]⟩=some (.exit 0,nmX (b.take 8) c,⟨0,[]⟩)):Z6 prog C0 (Z3 prog C0 (n+20)) (n+20) 84 [.isl 1 (bys b)] ⟨0,[]⟩=some (.int .i64 0,⟨0,[]⟩):=by
 have f1:(0:Int)<=(0:Int)/\(0:Int)<=Option.getD (some (8:Int)) ((bys b).length:Int)/\Option.getD (some (8:Int)) ((bys b).length:Int)<=((bys b).length:Int):=by simp;omega
 have f2:LV.isl 1 (List.drop 0 (List.take 8 (bys b)))=LV.isl 1 (bys (List.take 8 b)):=by simp
 have f3:LV.int i64 ((bys (List.take 8 b)).length:Int)=LV.int i64 8:=by simp (disch:=omega)
 have f4:=L
 have f5:decide (1152921504606846976<c)=true:=by simp;omega
 exact drn (fun h=>ai (f1)<|ai (f2)<|ai (f3)<|ai (Eq.refl (Z9 f4))<|ai (f4)<|ai (congrArg LV.bool f5)<|h) (.s (.a) (.s (.a) (.s (.s (.r [.a,.v (vOf f2) (.q)]) (.k (.l (.h [.y 8 (vOf f3)] (eOf f4) (Zp f4) (rOf f4))))) (.s (.s (.a) (.b true (.a))) .a)))) [] .a (by kernel_rfl)
theorem number_any(n:Nat)(b:List Int)(hb:8<=b.length)(hB:byB b):Z6 prog C0 (Z3 prog C0 (n+20)) (n+20) 84 [.isl 1 (bys b)] ⟨0,[]⟩=some (.int .i64 (numB b),⟨0,[]⟩):=by
 have e:=numS_F (hB.take 8);have e2:numF (b.take 8)=numF b:=by unfold numF;simp [atI_take]
 have hl:=numF_lt hB;have L:=nm_loop n (b.take 8) (by simp;omega)
 rw [e,e2] at L;unfold numB
 by_cases h:1152921504606846976<numF b
 ·rw [if_pos h];exact number_gt n b hb _ h L
 ·rw [if_neg h];exact number_le n b hb _ hl.1 (by omega) L
def rdB(b:List Int):Int × List Int:=if numB b=numB (b.drop 56)/\atI b 8<=47 then (numB b,(b.drop 9).take (atI b 8).toNat) else (0,[])
theorem zq7_21(a0:List Int)(q0:Nat):LV.isl 1 (List.drop q0 (List.take (Int.toNat (Option.getD none ((bys a0).length:Int))) (bys a0)))=LV.isl 1 (bys (List.drop q0 a0)):=by simp
theorem sread_ok(n:Nat)(b:List Int)(hb:b.length=64)(t:Int)(h3:numB b=t)(h3':numB (b.drop 56)=t)(h4:0<=atI b 8)(h5:atI b 8<=47)(N:∀ k,Z6 prog C0 (Z3 prog C0 (k+20)) (k+20) 84 [.isl 1 (bys b)] ⟨0,[]⟩=some (.int .i64 t,⟨0,[]⟩))(M:∀ k,Z6 prog C0 (Z3 prog C0 (k+20)) (k+20) 84 [.isl 1 (bys (b.drop 56))] ⟨0,[]⟩=some (.int .i64 t,⟨0,[]⟩)):
  Z6 prog C0 (Z3 prog C0 (n+40)) (n+40) 49 [.isl 1 (bys b)] ⟨0,[]⟩=some (.agg [.int .i64 t,.isl 1 (bys ((b.drop 9).take (atI b 8).toNat))],⟨0,[]⟩):=by
 have f1:=N (n+19);have f2:(0:Int)<=(56:Int)/\(56:Int)<=Option.getD none ((bys b).length:Int)/\Option.getD none ((bys b).length:Int)<=((bys b).length:Int):=by simp;omega
 have f3:=zq7_21 b 56;have f4:=M (n+19);have f5:(bys b)[8]? = some (LV.int IntKind.u8 (atI b 8)):=by simp (disch:=omega)
 have f6:(0:Int)<=(8:Int)/\(8:Int)<((bys b).length:Int):=by simp;omega
 have f7:LV.int i64 (IntKind.wrap i64 (atI b 8))=LV.int i64 (atI b 8):=by simp (disch:=omega)
 have f8:(!decide (t=t))=false:=by simp
 have f9:LV.bool (if (!decide (t=t))=true then true else decide (47<atI b 8))=LV.bool false:=by simp;omega
 have f10:0<=atI b 8/\atI b 8<=atI b 8/\1*atI b 8<=281474976710656:=by omega
 have f11:LObj.row 5 1 (List.replicate (Int.toNat (atI b 8)) (LV.int IntKind.u8 0))=LObj.row 5 1 (bys (List.replicate (Int.toNat (atI b 8)) 0)):=by simp
 have f12:(0:Int)<=(9:Int)/\(9:Int)<=Option.getD none ((bys b).length:Int)/\Option.getD none ((bys b).length:Int)<=((bys b).length:Int):=by simp;omega
 have f13:=zq7_21 b 9;have f14:Yj true 1 (Zo (bys (List.drop 9 b)))=true:=by simp
 have f15:0+Int.toNat (atI b 8)<=List.length (bys (List.replicate (Int.toNat (atI b 8)) 0)):=by simp
 have f16:LV.int i64 (↑(min (List.length (Zo (bys (List.drop 9 b)))) (Int.toNat (atI b 8))):Int)=LV.int i64 (max (atI b 8) 0):=by simp (disch:=omega)
 have f17:LObj.row 5 1 (Zr (bys (List.replicate (Int.toNat (atI b 8)) 0)) 0 (List.take (min (List.length (Zo (bys (List.drop 9 b)))) (Int.toNat (atI b 8))) (Zo (bys (List.drop 9 b)))))=LObj.row 5 1 (bys (List.take (Int.toNat (atI b 8)) (List.drop 9 b))):=by simp (disch:=first | omega | (simp;omega)) [-List.reduceReplicate]
 have f18:LV.agg [.int i64 t,if 1=1 then if 1=1/\0+Int.toNat (atI b 8)<=List.length (bys (List.take (Int.toNat (atI b 8)) (List.drop 9 b)))/\X1 (Int.toNat (atI b 8)) none=true then LV.isl 1 (List.take (Int.toNat (atI b 8)) (List.drop 0 (bys (List.take (Int.toNat (atI b 8)) (List.drop 9 b))))) else LV.any else LV.sl 1 1 0 (Int.toNat (atI b 8)) none]=LV.agg [.int i64 t,.isl 1 (bys (List.take (Int.toNat (atI b 8)) (List.drop 9 b)))]:=by simp (disch:=first | omega | (simp;omega))
 have f19:LObj.box 99 [.int i64 t,if 1=1 then if 1=1/\0+Int.toNat (atI b 8)<=List.length (bys (List.take (Int.toNat (atI b 8)) (List.drop 9 b)))/\X1 (Int.toNat (atI b 8)) none=true then LV.isl 1 (List.take (Int.toNat (atI b 8)) (List.drop 0 (bys (List.take (Int.toNat (atI b 8)) (List.drop 9 b))))) else LV.any else LV.sl 1 1 0 (Int.toNat (atI b 8)) none]=LObj.box 99 [.int i64 t,.isl 1 (bys (List.take (Int.toNat (atI b 8)) (List.drop 9 b)))]:=by simp (disch:=first | omega | (simp;omega))
 exact drn (fun h=>ai (f1)<|ai (f2)<|ai (f3)<|ai (f4)<|ai (f6)<|ai (f5)<|ai (f7)<|ai (congrArg some f8)<|ai (congrArg some f8)<|ai (f9)<|ai (f10)<|ai (congrArg some f11)<|ai (f12)<|ai (f13)<|ai (f14)<|ai (f15)<|ai (f16)<|ai (congrArg some f17)<|ai (f18)<|ai (congrArg some f19)<|h) (.s (.a) (.s (.d [] [.a,.f (rOf f1),.a,.v (vOf f3) (.q)] [] [.f (rOf f4)]) (.s (.r [.a,.e (rOf f5),.a,.v (vOf f7) (.a)]) (.s (.s (.r [.a,.a,.a,.a,.g false (.a),.g false (.a),.v (vOf f9) (.a)]) (.a)) (.s (.r [.a,.x 1 (vOf f11) (.q)]) (.s (.r [.a,.a,.v (vOf f13) (.q),.x 1 (vOf f17) (.v (vOf f16) (.q))]) (.a))))))) [.y 0 (vOf f18),.x 0 (vOf f19)] .a (by kernel_rfl)
theorem sread_no(n:Nat)(b:List Int)(hb:b.length=64)(t u:Int)(h:¬ t=u)(N:∀ k,Z6 prog C0 (Z3 prog C0 (k+20)) (k+20) 84 [.isl 1 (bys b)] ⟨0,[]⟩=some (.int .i64 t,⟨0,[]⟩))(M:∀ k,Z6 prog C0 (Z3 prog C0 (k+20)) (k+20) 84 [.isl 1 (bys (b.drop 56))] ⟨0,[]⟩=some (.int .i64 u,⟨0,[]⟩)):
  Z6 prog C0 (Z3 prog C0 (n+40)) (n+40) 49 [.isl 1 (bys b)] ⟨0,[]⟩=some (.agg [.int .i64 0,.isl 1 []],⟨0,[]⟩):=by
 have f1:=N (n+19);have f2:(0:Int)<=(56:Int)/\(56:Int)<=Option.getD none ((bys b).length:Int)/\Option.getD none ((bys b).length:Int)<=((bys b).length:Int):=by simp;omega
 have f3:=zq7_21 b 56;have f4:=M (n+19);have f5:(bys b)[8]? = some (LV.int IntKind.u8 (atI b 8)):=by simp (disch:=omega)
 have f6:(0:Int)<=(8:Int)/\(8:Int)<((bys b).length:Int):=by simp;omega
 have f7:(LV.bool !decide (t=u))=LV.bool true:=by simp;omega
 exact drn (fun h=>ai (f1)<|ai (f2)<|ai (f3)<|ai (f4)<|ai (f6)<|ai (f5)<|ai (f7)<|h) (.s (.a) (.s (.d [] [.a,.f (rOf f1),.a,.v (vOf f3) (.q)] [] [.f (rOf f4)]) (.s (.r [.a,.e (rOf f5)]) (.s (.s (.r [.a,.a,.a,.z [.y 18 (vOf f7)] (.a)]) (.c (.s (.r []) (.a)))) .a)))) [] .a (by kernel_rfl)
theorem sread_big(n:Nat)(b:List Int)(hb:b.length=64)(t:Int)(h4:47<atI b 8)(h5:atI b 8<256)(N:∀ k,Z6 prog C0 (Z3 prog C0 (k+20)) (k+20) 84 [.isl 1 (bys b)] ⟨0,[]⟩=some (.int .i64 t,⟨0,[]⟩))(M:∀ k,Z6 prog C0 (Z3 prog C0 (k+20)) (k+20) 84 [.isl 1 (bys (b.drop 56))] ⟨0,[]⟩=some (.int .i64 t,⟨0,[]⟩)):
  Z6 prog C0 (Z3 prog C0 (n+40)) (n+40) 49 [.isl 1 (bys b)] ⟨0,[]⟩=some (.agg [.int .i64 0,.isl 1 []],⟨0,[]⟩):=by
 have f1:=N (n+19);have f2:(0:Int)<=(56:Int)/\(56:Int)<=Option.getD none ((bys b).length:Int)/\Option.getD none ((bys b).length:Int)<=((bys b).length:Int):=by simp;omega
 have f3:=zq7_21 b 56;have f4:=M (n+19);have f5:(bys b)[8]? = some (LV.int IntKind.u8 (atI b 8)):=by simp (disch:=omega)
 have f6:(0:Int)<=(8:Int)/\(8:Int)<((bys b).length:Int):=by simp;omega
 have f7:LV.int i64 (IntKind.wrap i64 (atI b 8))=LV.int i64 (atI b 8):=by simp (disch:=omega)
 have f8:(!decide (t=t))=false:=by simp
 have f9:LV.bool (if (!decide (t=t))=true then true else decide (47<atI b 8))=LV.bool true:=by simp;omega
 exact drn (fun h=>ai (f1)<|ai (f2)<|ai (f3)<|ai (f4)<|ai (f6)<|ai (f5)<|ai (f7)<|ai (congrArg some f8)<|ai (congrArg some f8)<|ai (f9)<|h) (.s (.a) (.s (.d [] [.a,.f (rOf f1),.a,.v (vOf f3) (.q)] [] [.f (rOf f4)]) (.s (.r [.a,.e (rOf f5),.a,.v (vOf f7) (.a)]) (.s (.s (.r [.a,.a,.a,.a,.g false (.a),.g false (.a),.v (vOf f9) (.a)]) (.a)) .a)))) [] .a (by kernel_rfl)
theorem sread_any(n:Nat)(b:List Int)(hb:b.length=64)(hB:byB b):
  Z6 prog C0 (Z3 prog C0 (n+40)) (n+40) 49 [.isl 1 (bys b)] ⟨0,[]⟩=some (.agg [.int .i64 (rdB b).1,.isl 1 (bys (rdB b).2)],⟨0,[]⟩):=by
 have N:=fun k=>number_any k b (by omega) hB
 have M:=fun k=>number_any k (b.drop 56) (by simp;omega) (hB.drop 56)
 have h8:=(Yw hB 8).1;unfold rdB
 by_cases h1:numB b=numB (b.drop 56)
 ·by_cases h2:atI b 8<=47
  ·rw [if_pos ⟨h1,h2⟩]
   rw [<- h1] at M;exact sread_ok n b hb _ rfl h1.symm h8 h2 N M
  ·rw [if_neg (fun h=>h2 h.2)]
   rw [<- h1] at M;exact sread_big n b hb _ (by omega) (Yw hB 8).2 N M
 ·rw [if_neg (fun h=>h1 h.1)]
  exact sread_no n b hb _ _ h1 N M
theorem rdB_le{b:List Int}(h:byB b):0<=(rdB b).1/\(rdB b).1<=1152921504606846976/\(rdB b).2.length<=47:=by
 have:=numB_le h;have h8:=(Yw h 8);unfold rdB
 split
 ·refine ⟨this.1,this.2,?_⟩
  rw [List.length_take];omega
 ·simp
theorem rdB_by{b:List Int}(h:byB b):byB (rdB b).2:=by
 unfold rdB
 split
 ·exact (h.drop 9).take _
 ·intro x hx;simp at hx
theorem zq7_22(a0:List Int):LV.eqb (LV.isl 1 (bys a0)) (LV.isl 1 (bys a0))=true:=by simp
theorem zq7_23(a0:Int)(a1:ML)(a2:PL)(a3:Int)(a4:Int)(a5:List Int):(LV.tup [.ptr 1 0,LV.nili],St.mk 2 [(0,LObj.box 97 [.int i64 a0,.omap i64 (List.map (·.1) (Zq a1)) (List.map (·.2) (Zq a1)),.own 116 2 (Zg a2)]),(1,LObj.box 106 [.ptr 0 0,.int i64 a3,.int i64 a4,.isl 1 (bys a5),.bool false])])=(LV.tup [.ptr 1 0,LV.nili],St.mk 2 [(0,dO a0 a1 a2),(1,LObj.box 106 [.ptr 0 0,.int i64 a3,.int i64 a4,.isl 1 (bys a5),.bool false])]):=by simp
theorem so_AB(n:Nat)(rm:Int)(m:ML)(p:PL)(hp:p.length<=1000000)(ho:okP p)(at_:Int)(h0:0<=at_)(h1:at_<=1073741823)(t0 t1:Int)(v0 v1:List Int)(g0:0<=t0)(g1:0<=t1)(r0:∀ k,Z6 prog C0 (Z3 prog C0 (k+40)) (k+40) 49 [.isl 1 (bys (rd m p at_))] ⟨0,[]⟩=some (.agg [.int .i64 t0,.isl 1 (bys v0)],⟨0,[]⟩))(r1:∀ k,Z6 prog C0 (Z3 prog C0 (k+40)) (k+40) 49 [.isl 1 (bys (rd m p (at_+1)))] ⟨0,[]⟩=some (.agg [.int .i64 t1,.isl 1 (bys v1)],⟨0,[]⟩))(e0:t0 % 2=0)(e1:t1 % 2=1)(e2:0<t0)(e3:t0<t1):
  Z6 prog C0 (Z3 prog C0 (n+80)) (n+80) 9 [.ptr 0 0,.int .i64 at_] ⟨1,[(0,dO rm m p)]⟩=some (.tup [.ptr 1 0,.nili],⟨2,[(0,dO rm m p),(1,.box 106 [.ptr 0 0,.int .i64 at_,.int .i64 t1,.isl 1 (bys v1),.bool false])]⟩):=by
 have f1:LV.int i64 (IntKind.wrap i64 (at_+0))=LV.int i64 at_:=by simp (disch:=omega) [-List.reduceReplicate,Zk]
 have f2:=Xl (n+79) rm m p at_ h0 (by omega) hp ho
 have f3:=r0 (n+39);have f4:LV.int i64 (IntKind.wrap i64 (at_+1))=LV.int i64 (at_+1):=by simp (disch:=omega) [-List.reduceReplicate,Zk]
 have f5:=Xl (n+79) rm m p (at_+1) (by omega) (by omega) hp ho
 have f6:=r1 (n+39);have f7:=zq7_0 m;have f8:=zq7_1 rm p 3 4;have f9:decide (Int.tmod t0 2=0)=true:=by (simp (disch:=first | omega | (simp;omega)) [-List.reduceReplicate,Zk];omega)
 have f10:LV.bool (if decide (Int.tmod t0 2=0)=true then decide (0<t0) else false)=LV.bool true:=by (simp (disch:=first | omega | (simp;omega)) [-List.reduceReplicate,Zk];omega)
 have f11:=zq7_22 v0;have f12:decide (Int.tmod t1 2=1)=true:=by (simp (disch:=first | omega | (simp;omega)) [-List.reduceReplicate,Zk];omega)
 have f13:LV.bool (if decide (Int.tmod t1 2=1)=true then decide (t0<t1) else false)=LV.bool true:=by (simp (disch:=first | omega | (simp;omega)) [-List.reduceReplicate,Zk];omega)
 have f14:=zq7_22 v1;have f15:List.length (Zg p)=List.length p:=by simp
 have f16:=zq7_23 rm m p at_ t1 v1;exact drn (fun h=>ai (f1)<|ai (f2)<|ai (f3)<|ai (f4)<|ai (f5)<|ai (f6)<|ai (congrArg some f7)<|ai (congrArg some f8)<|ai (congrArg some f9)<|ai (congrArg some f9)<|ai (congrArg some f9)<|ai (congrArg some f9)<|ai (congrArg some f9)<|ai (congrArg some f9)<|ai (congrArg some f9)<|ai (f10)<|ai (f11)<|ai (f11)<|ai (congrArg some f12)<|ai (congrArg some f12)<|ai (congrArg some f12)<|ai (congrArg some f12)<|ai (congrArg some f12)<|ai (congrArg some f12)<|ai (congrArg some f12)<|ai (f13)<|ai (f14)<|ai (f14)<|ai (f15)<|f16) (.s (.a) (.s (.a) (.s (.a) (.s (.s (.a) (.k (.l (.i (.s (.a) (.s (.a) (.s (.k (.s (.a) (.s (.r [.a,.a,.a,.v (vOf f1) (.a),.f (rOf f2)]) (.s (.a) (.r [.a,.a,.f (rOf f3)]))))) (.a)))) (.i (.s (.a) (.s (.a) (.s (.k (.s (.a) (.s (.r [.a,.a,.a,.v (vOf f4) (.a),.f (rOf f5)]) (.s (.a) (.r [.a,.a,.f (rOf f6)]))))) (.a)))) (.a)))))) (.s (.a) (.s (.s (.a) (.k (.l (.i (.s (.a) (.s (.a) (.s (.k (.s (.a) (.s (.d [.x 3 (vOf f7),.x 0 (vOf f8)] [.a,.a,.a,.a,.a,.a,.g true (.a),.g true (.a),.g true (.a),.g true (.a),.g true (.a),.g true (.a)] [] [.g true (.a),.v (vOf f10) (.a)]) (.c (.d [] [.a,.a,.a,.a,.a,.a,.a,.a,.a] [(true,.a),(true,.a)] []))))) (.a)))) (.i (.s (.a) (.s (.a) (.s (.k (.s (.a) (.s (.d [] [.a,.a,.a,.a,.a,.a,.g true (.a),.g true (.a),.g true (.a),.g true (.a),.g true (.a),.g true (.a)] [] [.g true (.a),.v (vOf f13) (.a)]) (.c (.d [] [.a,.a,.a,.a,.a,.a,.a,.a,.a] [(true,.a),(true,.a)] []))))) (.a)))) (.a)))))) (.a))))))) [] .q (by kernel_rfl)
theorem so_A1(n:Nat)(rm:Int)(m:ML)(p:PL)(hp:p.length<=1000000)(ho:okP p)(at_:Int)(h0:0<=at_)(h1:at_<=1073741823)(t0 t1:Int)(v0 v1:List Int)(g0:0<=t0)(g1:0<=t1)(r0:∀ k,Z6 prog C0 (Z3 prog C0 (k+40)) (k+40) 49 [.isl 1 (bys (rd m p at_))] ⟨0,[]⟩=some (.agg [.int .i64 t0,.isl 1 (bys v0)],⟨0,[]⟩))(r1:∀ k,Z6 prog C0 (Z3 prog C0 (k+40)) (k+40) 49 [.isl 1 (bys (rd m p (at_+1)))] ⟨0,[]⟩=some (.agg [.int .i64 t1,.isl 1 (bys v1)],⟨0,[]⟩))(e0:t0 % 2=0)(e1:¬ t1 % 2=1)(e2:0<t0):
  Z6 prog C0 (Z3 prog C0 (n+80)) (n+80) 9 [.ptr 0 0,.int .i64 at_] ⟨1,[(0,dO rm m p)]⟩=some (.tup [.ptr 1 0,.nili],⟨2,[(0,dO rm m p),(1,.box 106 [.ptr 0 0,.int .i64 at_,.int .i64 t0,.isl 1 (bys v0),.bool false])]⟩):=by
 have f1:LV.int i64 (IntKind.wrap i64 (at_+0))=LV.int i64 at_:=by simp (disch:=omega) [-List.reduceReplicate,Zk]
 have f2:=Xl (n+79) rm m p at_ h0 (by omega) hp ho
 have f3:=r0 (n+39);have f4:LV.int i64 (IntKind.wrap i64 (at_+1))=LV.int i64 (at_+1):=by simp (disch:=omega) [-List.reduceReplicate,Zk]
 have f5:=Xl (n+79) rm m p (at_+1) (by omega) (by omega) hp ho
 have f6:=r1 (n+39);have f7:=zq7_0 m;have f8:=zq7_1 rm p 3 4;have f9:decide (Int.tmod t0 2=0)=true:=by (simp (disch:=first | omega | (simp;omega)) [-List.reduceReplicate,Zk];omega)
 have f10:LV.bool (if decide (Int.tmod t0 2=0)=true then decide (0<t0) else false)=LV.bool true:=by (simp (disch:=first | omega | (simp;omega)) [-List.reduceReplicate,Zk];omega)
 have f11:=zq7_22 v0;have f12:decide (Int.tmod t1 2=1)=false:=by (simp (disch:=first | omega | (simp;omega)) [-List.reduceReplicate,Zk];omega)
 have f13:Xf (decide (Int.tmod t1 2=1)) LV.any (LV.bool false)=some (LV.bool false):=by simp (disch:=first | omega | (simp;omega)) [-List.reduceReplicate,Zk,if_pos,if_neg]
 have f14:List.length (Zg p)=List.length p:=by simp
 have f15:=zq7_23 rm m p at_ t0 v0;exact drn (fun h=>ai (f1)<|ai (f2)<|ai (f3)<|ai (f4)<|ai (f5)<|ai (f6)<|ai (congrArg some f7)<|ai (congrArg some f8)<|ai (congrArg some f9)<|ai (congrArg some f9)<|ai (congrArg some f9)<|ai (congrArg some f9)<|ai (congrArg some f9)<|ai (congrArg some f9)<|ai (congrArg some f9)<|ai (f10)<|ai (f11)<|ai (f11)<|ai (congrArg some f12)<|ai (congrArg some f12)<|ai (congrArg some f12)<|ai (congrArg some f12)<|ai (congrArg some f12)<|ai (congrArg some f12)<|ai (congrArg some f12)<|ai (Y3 (st:=(St.mk 5 [(4,LObj.box 99 [.int i64 t1,.isl 1 (bys v1)]),(0,LObj.box 97 [.int i64 rm,.map 1,.sl 2 2 0 (List.length p) none]),(1,LObj.map i64 (Zq m)),(2,LObj.row 116 2 (Zg p)),(3,LObj.box 106 [.ptr 0 0,.int i64 at_,.int i64 t0,.isl 1 (bys v0),.bool false])])) f13)<|ai (f14)<|f15) (.s (.a) (.s (.a) (.s (.a) (.s (.s (.a) (.k (.l (.i (.s (.a) (.s (.a) (.s (.k (.s (.a) (.s (.r [.a,.a,.a,.v (vOf f1) (.a),.f (rOf f2)]) (.s (.a) (.r [.a,.a,.f (rOf f3)]))))) (.a)))) (.i (.s (.a) (.s (.a) (.s (.k (.s (.a) (.s (.r [.a,.a,.a,.v (vOf f4) (.a),.f (rOf f5)]) (.s (.a) (.r [.a,.a,.f (rOf f6)]))))) (.a)))) (.a)))))) (.s (.a) (.s (.s (.a) (.k (.l (.i (.s (.a) (.s (.a) (.s (.k (.s (.a) (.s (.d [.x 3 (vOf f7),.x 0 (vOf f8)] [.a,.a,.a,.a,.a,.a,.g true (.a),.g true (.a),.g true (.a),.g true (.a),.g true (.a),.g true (.a)] [] [.g true (.a),.v (vOf f10) (.a)]) (.c (.d [] [.a,.a,.a,.a,.a,.a,.a,.a,.a] [(true,.a),(true,.a)] []))))) (.a)))) (.i (.s (.a) (.s (.a) (.s (.k (.s (.a) (.s (.d [] [.a,.a,.a,.a,.a,.a,.g false (.a),.g false (.a),.g false (.a),.g false (.a),.g false (.a),.g false (.a)] [] [.g false (.a),.t (rOf (Y3 (st:=(St.mk 5 [(4,LObj.box 99 [.int i64 t1,.isl 1 (bys v1)]),(0,LObj.box 97 [.int i64 rm,.map 1,.sl 2 2 0 (List.length p) none]),(1,LObj.map i64 (Zq m)),(2,LObj.row 116 2 (Zg p)),(3,LObj.box 106 [.ptr 0 0,.int i64 at_,.int i64 t0,.isl 1 (bys v0),.bool false])])) f13))]) (.a)))) (.a)))) (.a)))))) (.a))))))) [] .q (by kernel_rfl)
theorem so_A2(n:Nat)(rm:Int)(m:ML)(p:PL)(hp:p.length<=1000000)(ho:okP p)(at_:Int)(h0:0<=at_)(h1:at_<=1073741823)(t0 t1:Int)(v0 v1:List Int)(g0:0<=t0)(g1:0<=t1)(r0:∀ k,Z6 prog C0 (Z3 prog C0 (k+40)) (k+40) 49 [.isl 1 (bys (rd m p at_))] ⟨0,[]⟩=some (.agg [.int .i64 t0,.isl 1 (bys v0)],⟨0,[]⟩))(r1:∀ k,Z6 prog C0 (Z3 prog C0 (k+40)) (k+40) 49 [.isl 1 (bys (rd m p (at_+1)))] ⟨0,[]⟩=some (.agg [.int .i64 t1,.isl 1 (bys v1)],⟨0,[]⟩))(e0:t0 % 2=0)(e1:t1 % 2=1)(e2:0<t0)(e3:t1<=t0):
  Z6 prog C0 (Z3 prog C0 (n+80)) (n+80) 9 [.ptr 0 0,.int .i64 at_] ⟨1,[(0,dO rm m p)]⟩=some (.tup [.ptr 1 0,.nili],⟨2,[(0,dO rm m p),(1,.box 106 [.ptr 0 0,.int .i64 at_,.int .i64 t0,.isl 1 (bys v0),.bool false])]⟩):=by
 have f1:LV.int i64 (IntKind.wrap i64 (at_+0))=LV.int i64 at_:=by simp (disch:=omega) [-List.reduceReplicate,Zk]
 have f2:=Xl (n+79) rm m p at_ h0 (by omega) hp ho
 have f3:=r0 (n+39);have f4:LV.int i64 (IntKind.wrap i64 (at_+1))=LV.int i64 (at_+1):=by simp (disch:=omega) [-List.reduceReplicate,Zk]
 have f5:=Xl (n+79) rm m p (at_+1) (by omega) (by omega) hp ho
 have f6:=r1 (n+39);have f7:=zq7_0 m;have f8:=zq7_1 rm p 3 4;have f9:decide (Int.tmod t0 2=0)=true:=by (simp (disch:=first | omega | (simp;omega)) [-List.reduceReplicate,Zk];omega)
 have f10:LV.bool (if decide (Int.tmod t0 2=0)=true then decide (0<t0) else false)=LV.bool true:=by (simp (disch:=first | omega | (simp;omega)) [-List.reduceReplicate,Zk];omega)
 have f11:=zq7_22 v0;have f12:decide (Int.tmod t1 2=1)=true:=by (simp (disch:=first | omega | (simp;omega)) [-List.reduceReplicate,Zk];omega)
 have f13:LV.bool (if decide (Int.tmod t1 2=1)=true then decide (t0<t1) else false)=LV.bool false:=by simp [-List.reduceReplicate,Zk];omega
 have f14:List.length (Zg p)=List.length p:=by simp
 have f15:=zq7_23 rm m p at_ t0 v0;exact drn (fun h=>ai (f1)<|ai (f2)<|ai (f3)<|ai (f4)<|ai (f5)<|ai (f6)<|ai (congrArg some f7)<|ai (congrArg some f8)<|ai (congrArg some f9)<|ai (congrArg some f9)<|ai (congrArg some f9)<|ai (congrArg some f9)<|ai (congrArg some f9)<|ai (congrArg some f9)<|ai (congrArg some f9)<|ai (f10)<|ai (f11)<|ai (f11)<|ai (congrArg some f12)<|ai (congrArg some f12)<|ai (congrArg some f12)<|ai (congrArg some f12)<|ai (congrArg some f12)<|ai (congrArg some f12)<|ai (congrArg some f12)<|ai (f13)<|ai (f14)<|f15) (.s (.a) (.s (.a) (.s (.a) (.s (.s (.a) (.k (.l (.i (.s (.a) (.s (.a) (.s (.k (.s (.a) (.s (.r [.a,.a,.a,.v (vOf f1) (.a),.f (rOf f2)]) (.s (.a) (.r [.a,.a,.f (rOf f3)]))))) (.a)))) (.i (.s (.a) (.s (.a) (.s (.k (.s (.a) (.s (.r [.a,.a,.a,.v (vOf f4) (.a),.f (rOf f5)]) (.s (.a) (.r [.a,.a,.f (rOf f6)]))))) (.a)))) (.a)))))) (.s (.a) (.s (.s (.a) (.k (.l (.i (.s (.a) (.s (.a) (.s (.k (.s (.a) (.s (.d [.x 3 (vOf f7),.x 0 (vOf f8)] [.a,.a,.a,.a,.a,.a,.g true (.a),.g true (.a),.g true (.a),.g true (.a),.g true (.a),.g true (.a)] [] [.g true (.a),.v (vOf f10) (.a)]) (.c (.d [] [.a,.a,.a,.a,.a,.a,.a,.a,.a] [(true,.a),(true,.a)] []))))) (.a)))) (.i (.s (.a) (.s (.a) (.s (.k (.s (.a) (.s (.d [] [.a,.a,.a,.a,.a,.a,.g true (.a),.g true (.a),.g true (.a),.g true (.a),.g true (.a),.g true (.a)] [] [.g true (.a),.v (vOf f13) (.a)]) (.a)))) (.a)))) (.a)))))) (.a))))))) [] .q (by kernel_rfl)
theorem so_B(n:Nat)(rm:Int)(m:ML)(p:PL)(hp:p.length<=1000000)(ho:okP p)(at_:Int)(h0:0<=at_)(h1:at_<=1073741823)(t0 t1:Int)(v0 v1:List Int)(g0:0<=t0)(g1:0<=t1)(r0:∀ k,Z6 prog C0 (Z3 prog C0 (k+40)) (k+40) 49 [.isl 1 (bys (rd m p at_))] ⟨0,[]⟩=some (.agg [.int .i64 t0,.isl 1 (bys v0)],⟨0,[]⟩))(r1:∀ k,Z6 prog C0 (Z3 prog C0 (k+40)) (k+40) 49 [.isl 1 (bys (rd m p (at_+1)))] ⟨0,[]⟩=some (.agg [.int .i64 t1,.isl 1 (bys v1)],⟨0,[]⟩))(e0:¬ (t0 % 2=0/\0<t0))(e1:t1 % 2=1)(e3:0<t1):
  Z6 prog C0 (Z3 prog C0 (n+80)) (n+80) 9 [.ptr 0 0,.int .i64 at_] ⟨1,[(0,dO rm m p)]⟩=some (.tup [.ptr 1 0,.nili],⟨2,[(0,dO rm m p),(1,.box 106 [.ptr 0 0,.int .i64 at_,.int .i64 t1,.isl 1 (bys v1),.bool false])]⟩):=by
 by_cases q:t0 % 2=0
 ·have q2:t0=0:=by omega
  subst q2;have f1:LV.int i64 (IntKind.wrap i64 (at_+0))=LV.int i64 at_:=by simp (disch:=omega) [-List.reduceReplicate,Zk]
  have f2:=Xl (n+79) rm m p at_ h0 (by omega) hp ho
  have f3:=r0 (n+39);have f4:LV.int i64 (IntKind.wrap i64 (at_+1))=LV.int i64 (at_+1):=by simp (disch:=omega) [-List.reduceReplicate,Zk]
  have f5:=Xl (n+79) rm m p (at_+1) (by omega) (by omega) hp ho
  have f6:=r1 (n+39);have f7:=zq7_0 m;have f8:=zq7_1 rm p 3 4;have f9:decide (Int.tmod t1 2=1)=true:=by (simp (disch:=first | omega | (simp;omega)) [-List.reduceReplicate,Zk];omega)
  have f10:LV.bool (if decide (Int.tmod t1 2=1)=true then decide (0<t1) else false)=LV.bool true:=by (simp (disch:=first | omega | (simp;omega)) [-List.reduceReplicate,Zk];omega)
  have f11:=zq7_22 v1;have f12:List.length (Zg p)=List.length p:=by simp
  have f13:=zq7_23 rm m p at_ t1 v1;exact drn (fun h=>ai (f1)<|ai (f2)<|ai (f3)<|ai (f4)<|ai (f5)<|ai (f6)<|ai (congrArg some f7)<|ai (congrArg some f8)<|ai (congrArg some f9)<|ai (congrArg some f9)<|ai (congrArg some f9)<|ai (congrArg some f9)<|ai (congrArg some f9)<|ai (congrArg some f9)<|ai (congrArg some f9)<|ai (f10)<|ai (f11)<|ai (f11)<|ai (f12)<|f13) (.s (.a) (.s (.a) (.s (.a) (.s (.s (.a) (.k (.l (.i (.s (.a) (.s (.a) (.s (.k (.s (.a) (.s (.r [.a,.a,.a,.v (vOf f1) (.a),.f (rOf f2)]) (.s (.a) (.r [.a,.a,.f (rOf f3)]))))) (.a)))) (.i (.s (.a) (.s (.a) (.s (.k (.s (.a) (.s (.r [.a,.a,.a,.v (vOf f4) (.a),.f (rOf f5)]) (.s (.a) (.r [.a,.a,.f (rOf f6)]))))) (.a)))) (.a)))))) (.s (.a) (.s (.s (.a) (.k (.l (.i (.s (.a) (.s (.a) (.s (.k (.s (.a) (.s (.d [.x 3 (vOf f7),.x 0 (vOf f8)] [.a,.a,.a,.a,.a,.a,.a,.a,.a,.a,.a,.a] [] []) (.a)))) (.a)))) (.i (.s (.a) (.s (.a) (.s (.k (.s (.a) (.s (.d [] [.a,.a,.a,.a,.a,.a,.g true (.a),.g true (.a),.g true (.a),.g true (.a),.g true (.a),.g true (.a)] [] [.g true (.a),.v (vOf f10) (.a)]) (.c (.d [] [.a,.a,.a,.a,.a,.a,.a,.a,.a] [(true,.a),(true,.a)] []))))) (.a)))) (.a)))))) (.a))))))) [] .q (by kernel_rfl)
 ·have f1:LV.int i64 (IntKind.wrap i64 (at_+0))=LV.int i64 at_:=by simp (disch:=omega) [-List.reduceReplicate,Zk]
  have f2:=Xl (n+79) rm m p at_ h0 (by omega) hp ho
  have f3:=r0 (n+39);have f4:LV.int i64 (IntKind.wrap i64 (at_+1))=LV.int i64 (at_+1):=by simp (disch:=omega) [-List.reduceReplicate,Zk]
  have f5:=Xl (n+79) rm m p (at_+1) (by omega) (by omega) hp ho
  have f6:=r1 (n+39);have f7:=zq7_0 m;have f8:=zq7_1 rm p 3 4;have f9:decide (Int.tmod t0 2=0)=false:=by (simp (disch:=first | omega | (simp;omega)) [-List.reduceReplicate,Zk];omega)
  have f10:Xf (decide (Int.tmod t0 2=0)) LV.any (LV.bool false)=some (LV.bool false):=by simp (disch:=first | omega | (simp;omega)) [-List.reduceReplicate,Zk,if_pos,if_neg]
  have f11:decide (Int.tmod t1 2=1)=true:=by (simp (disch:=first | omega | (simp;omega)) [-List.reduceReplicate,Zk];omega)
  have f12:LV.bool (if decide (Int.tmod t1 2=1)=true then decide (0<t1) else false)=LV.bool true:=by (simp (disch:=first | omega | (simp;omega)) [-List.reduceReplicate,Zk];omega)
  have f13:=zq7_22 v1;have f14:List.length (Zg p)=List.length p:=by simp
  have f15:=zq7_23 rm m p at_ t1 v1;exact drn (fun h=>ai (f1)<|ai (f2)<|ai (f3)<|ai (f4)<|ai (f5)<|ai (f6)<|ai (congrArg some f7)<|ai (congrArg some f8)<|ai (congrArg some f9)<|ai (congrArg some f9)<|ai (congrArg some f9)<|ai (congrArg some f9)<|ai (congrArg some f9)<|ai (congrArg some f9)<|ai (congrArg some f9)<|ai (Y3 (st:=(St.mk 5 [(4,LObj.row 116 2 (Zg p)),(3,LObj.map i64 (Zq m)),(2,LObj.box 99 [.int i64 t0,.isl 1 (bys v0)]),(0,LObj.box 97 [.int i64 rm,.map 3,.sl 2 4 0 (List.length p) none]),(1,LObj.box 106 [.ptr 0 0,.int i64 at_,.int i64 0,.nils,.bool false])])) f10)<|ai (congrArg some f11)<|ai (congrArg some f11)<|ai (congrArg some f11)<|ai (congrArg some f11)<|ai (congrArg some f11)<|ai (congrArg some f11)<|ai (congrArg some f11)<|ai (f12)<|ai (f13)<|ai (f13)<|ai (f14)<|f15) (.s (.a) (.s (.a) (.s (.a) (.s (.s (.a) (.k (.l (.i (.s (.a) (.s (.a) (.s (.k (.s (.a) (.s (.r [.a,.a,.a,.v (vOf f1) (.a),.f (rOf f2)]) (.s (.a) (.r [.a,.a,.f (rOf f3)]))))) (.a)))) (.i (.s (.a) (.s (.a) (.s (.k (.s (.a) (.s (.r [.a,.a,.a,.v (vOf f4) (.a),.f (rOf f5)]) (.s (.a) (.r [.a,.a,.f (rOf f6)]))))) (.a)))) (.a)))))) (.s (.a) (.s (.s (.a) (.k (.l (.i (.s (.a) (.s (.a) (.s (.k (.s (.a) (.s (.d [.x 3 (vOf f7),.x 0 (vOf f8)] [.a,.a,.a,.a,.a,.a,.g false (.a),.g false (.a),.g false (.a),.g false (.a),.g false (.a),.g false (.a)] [] [.g false (.a),.t (rOf (Y3 (st:=(St.mk 5 [(4,LObj.row 116 2 (Zg p)),(3,LObj.map i64 (Zq m)),(2,LObj.box 99 [.int i64 t0,.isl 1 (bys v0)]),(0,LObj.box 97 [.int i64 rm,.map 3,.sl 2 4 0 (List.length p) none]),(1,LObj.box 106 [.ptr 0 0,.int i64 at_,.int i64 0,.nils,.bool false])])) f10))]) (.a)))) (.a)))) (.i (.s (.a) (.s (.a) (.s (.k (.s (.a) (.s (.d [] [.a,.a,.a,.a,.a,.a,.g true (.a),.g true (.a),.g true (.a),.g true (.a),.g true (.a),.g true (.a)] [] [.g true (.a),.v (vOf f12) (.a)]) (.c (.d [] [.a,.a,.a,.a,.a,.a,.a,.a,.a] [(true,.a),(true,.a)] []))))) (.a)))) (.a)))))) (.a))))))) [] .q (by kernel_rfl)
theorem zq7_24(a0:Int)(a1:ML)(a2:PL)(a3:Int):(LV.tup [.ptr 1 0,LV.nili],St.mk 2 [(0,LObj.box 97 [.int i64 a0,.omap i64 (List.map (·.1) (Zq a1)) (List.map (·.2) (Zq a1)),.own 116 2 (Zg a2)]),(1,LObj.box 106 [.ptr 0 0,.int i64 a3,.int i64 0,.own 5 1 [],.bool false])])=(LV.tup [.ptr 1 0,LV.nili],St.mk 2 [(0,dO a0 a1 a2),(1,LObj.box 106 [.ptr 0 0,.int i64 a3,.int i64 0,.own 5 1 [],.bool false])]):=by simp
theorem so_N(n:Nat)(rm:Int)(m:ML)(p:PL)(hp:p.length<=1000000)(ho:okP p)(at_:Int)(h0:0<=at_)(h1:at_<=1073741823)(t0 t1:Int)(v0 v1:List Int)(g0:0<=t0)(g1:0<=t1)(r0:∀ k,Z6 prog C0 (Z3 prog C0 (k+40)) (k+40) 49 [.isl 1 (bys (rd m p at_))] ⟨0,[]⟩=some (.agg [.int .i64 t0,.isl 1 (bys v0)],⟨0,[]⟩))(r1:∀ k,Z6 prog C0 (Z3 prog C0 (k+40)) (k+40) 49 [.isl 1 (bys (rd m p (at_+1)))] ⟨0,[]⟩=some (.agg [.int .i64 t1,.isl 1 (bys v1)],⟨0,[]⟩))(e0:¬ (t0 % 2=0/\0<t0))(e1:¬ t1 % 2=1):
  Z6 prog C0 (Z3 prog C0 (n+80)) (n+80) 9 [.ptr 0 0,.int .i64 at_] ⟨1,[(0,dO rm m p)]⟩=some (.tup [.ptr 1 0,.nili],⟨2,[(0,dO rm m p),(1,.box 106 [.ptr 0 0,.int .i64 at_,.int .i64 0,.own 5 1 [],.bool false])]⟩):=by
 by_cases q:t0 % 2=0
 ·have q2:t0=0:=by omega
  subst q2;have f1:LV.int i64 (IntKind.wrap i64 (at_+0))=LV.int i64 at_:=by simp (disch:=omega) [-List.reduceReplicate,Zk]
  have f2:=Xl (n+79) rm m p at_ h0 (by omega) hp ho
  have f3:=r0 (n+39);have f4:LV.int i64 (IntKind.wrap i64 (at_+1))=LV.int i64 (at_+1):=by simp (disch:=omega) [-List.reduceReplicate,Zk]
  have f5:=Xl (n+79) rm m p (at_+1) (by omega) (by omega) hp ho
  have f6:=r1 (n+39);have f7:=zq7_0 m;have f8:=zq7_1 rm p 3 4;have f9:decide (Int.tmod t1 2=1)=false:=by (simp (disch:=first | omega | (simp;omega)) [-List.reduceReplicate,Zk];omega)
  have f10:Xf (decide (Int.tmod t1 2=1)) LV.any (LV.bool false)=some (LV.bool false):=by simp (disch:=first | omega | (simp;omega)) [-List.reduceReplicate,Zk,if_pos,if_neg]
  have f11:List.length (Zg p)=List.length p:=by simp
  have f12:=zq7_24 rm m p at_;exact drn (fun h=>ai (f1)<|ai (f2)<|ai (f3)<|ai (f4)<|ai (f5)<|ai (f6)<|ai (congrArg some f7)<|ai (congrArg some f8)<|ai (congrArg some f9)<|ai (congrArg some f9)<|ai (congrArg some f9)<|ai (congrArg some f9)<|ai (congrArg some f9)<|ai (congrArg some f9)<|ai (congrArg some f9)<|ai (Y3 (st:=(St.mk 5 [(4,LObj.box 99 [.int i64 t1,.isl 1 (bys v1)]),(0,LObj.box 97 [.int i64 rm,.map 1,.sl 2 2 0 (List.length p) none]),(1,LObj.map i64 (Zq m)),(2,LObj.row 116 2 (Zg p)),(3,LObj.box 106 [.ptr 0 0,.int i64 at_,.int i64 0,.nils,.bool false])])) f10)<|ai (f11)<|f12) (.s (.a) (.s (.a) (.s (.a) (.s (.s (.a) (.k (.l (.i (.s (.a) (.s (.a) (.s (.k (.s (.a) (.s (.r [.a,.a,.a,.v (vOf f1) (.a),.f (rOf f2)]) (.s (.a) (.r [.a,.a,.f (rOf f3)]))))) (.a)))) (.i (.s (.a) (.s (.a) (.s (.k (.s (.a) (.s (.r [.a,.a,.a,.v (vOf f4) (.a),.f (rOf f5)]) (.s (.a) (.r [.a,.a,.f (rOf f6)]))))) (.a)))) (.a)))))) (.s (.a) (.s (.s (.a) (.k (.l (.i (.s (.a) (.s (.a) (.s (.k (.s (.a) (.s (.d [.x 3 (vOf f7),.x 0 (vOf f8)] [.a,.a,.a,.a,.a,.a,.a,.a,.a,.a,.a,.a] [] []) (.a)))) (.a)))) (.i (.s (.a) (.s (.a) (.s (.k (.s (.a) (.s (.d [] [.a,.a,.a,.a,.a,.a,.g false (.a),.g false (.a),.g false (.a),.g false (.a),.g false (.a),.g false (.a)] [] [.g false (.a),.t (rOf (Y3 (st:=(St.mk 5 [(4,LObj.box 99 [.int i64 t1,.isl 1 (bys v1)]),(0,LObj.box 97 [.int i64 rm,.map 1,.sl 2 2 0 (List.length p) none]),(1,LObj.map i64 (Zq m)),(2,LObj.row 116 2 (Zg p)),(3,LObj.box 106 [.ptr 0 0,.int i64 at_,.int i64 0,.nils,.bool false])])) f10))]) (.a)))) (.a)))) (.a)))))) (.a))))))) [] .q (by kernel_rfl)
 ·have f1:LV.int i64 (IntKind.wrap i64 (at_+0))=LV.int i64 at_:=by simp (disch:=omega) [-List.reduceReplicate,Zk]
  have f2:=Xl (n+79) rm m p at_ h0 (by omega) hp ho
  have f3:=r0 (n+39);have f4:LV.int i64 (IntKind.wrap i64 (at_+1))=LV.int i64 (at_+1):=by simp (disch:=omega) [-List.reduceReplicate,Zk]
  have f5:=Xl (n+79) rm m p (at_+1) (by omega) (by omega) hp ho
  have f6:=r1 (n+39);have f7:=zq7_0 m;have f8:=zq7_1 rm p 3 4;have f9:decide (Int.tmod t0 2=0)=false:=by (simp (disch:=first | omega | (simp;omega)) [-List.reduceReplicate,Zk];omega)
  have f10:Xf (decide (Int.tmod t0 2=0)) LV.any (LV.bool false)=some (LV.bool false):=by simp (disch:=first | omega | (simp;omega)) [-List.reduceReplicate,Zk,if_pos,if_neg]
  have f11:decide (Int.tmod t1 2=1)=false:=by (simp (disch:=first | omega | (simp;omega)) [-List.reduceReplicate,Zk];omega)
  have f12:Xf (decide (Int.tmod t1 2=1)) LV.any (LV.bool false)=some (LV.bool false):=by simp (disch:=first | omega | (simp;omega)) [-List.reduceReplicate,Zk,if_pos,if_neg]
  have f13:List.length (Zg p)=List.length p:=by simp
  have f14:=zq7_24 rm m p at_;exact drn (fun h=>ai (f1)<|ai (f2)<|ai (f3)<|ai (f4)<|ai (f5)<|ai (f6)<|ai (congrArg some f7)<|ai (congrArg some f8)<|ai (congrArg some f9)<|ai (congrArg some f9)<|ai (congrArg some f9)<|ai (congrArg some f9)<|ai (congrArg some f9)<|ai (congrArg some f9)<|ai (congrArg some f9)<|ai (Y3 (st:=(St.mk 5 [(4,LObj.row 116 2 (Zg p)),(3,LObj.map i64 (Zq m)),(2,LObj.box 99 [.int i64 t0,.isl 1 (bys v0)]),(0,LObj.box 97 [.int i64 rm,.map 3,.sl 2 4 0 (List.length p) none]),(1,LObj.box 106 [.ptr 0 0,.int i64 at_,.int i64 0,.nils,.bool false])])) f10)<|ai (congrArg some f11)<|ai (congrArg some f11)<|ai (congrArg some f11)<|ai (congrArg some f11)<|ai (congrArg some f11)<|ai (congrArg some f11)<|ai (congrArg some f11)<|ai (Y3 (st:=(St.mk 5 [(4,LObj.box 99 [.int i64 t1,.isl 1 (bys v1)]),(0,LObj.box 97 [.int i64 rm,.map 1,.sl 2 2 0 (List.length p) none]),(1,LObj.map i64 (Zq m)),(2,LObj.row 116 2 (Zg p)),(3,LObj.box 106 [.ptr 0 0,.int i64 at_,.int i64 0,.nils,.bool false])])) f12)<|ai (f13)<|f14) (.s (.a) (.s (.a) (.s (.a) (.s (.s (.a) (.k (.l (.i (.s (.a) (.s (.a) (.s (.k (.s (.a) (.s (.r [.a,.a,.a,.v (vOf f1) (.a),.f (rOf f2)]) (.s (.a) (.r [.a,.a,.f (rOf f3)]))))) (.a)))) (.i (.s (.a) (.s (.a) (.s (.k (.s (.a) (.s (.r [.a,.a,.a,.v (vOf f4) (.a),.f (rOf f5)]) (.s (.a) (.r [.a,.a,.f (rOf f6)]))))) (.a)))) (.a)))))) (.s (.a) (.s (.s (.a) (.k (.l (.i (.s (.a) (.s (.a) (.s (.k (.s (.a) (.s (.d [.x 3 (vOf f7),.x 0 (vOf f8)] [.a,.a,.a,.a,.a,.a,.g false (.a),.g false (.a),.g false (.a),.g false (.a),.g false (.a),.g false (.a)] [] [.g false (.a),.t (rOf (Y3 (st:=(St.mk 5 [(4,LObj.row 116 2 (Zg p)),(3,LObj.map i64 (Zq m)),(2,LObj.box 99 [.int i64 t0,.isl 1 (bys v0)]),(0,LObj.box 97 [.int i64 rm,.map 3,.sl 2 4 0 (List.length p) none]),(1,LObj.box 106 [.ptr 0 0,.int i64 at_,.int i64 0,.nils,.bool false])])) f10))]) (.a)))) (.a)))) (.i (.s (.a) (.s (.a) (.s (.k (.s (.a) (.s (.d [] [.a,.a,.a,.a,.a,.a,.g false (.a),.g false (.a),.g false (.a),.g false (.a),.g false (.a),.g false (.a)] [] [.g false (.a),.t (rOf (Y3 (st:=(St.mk 5 [(4,LObj.box 99 [.int i64 t1,.isl 1 (bys v1)]),(0,LObj.box 97 [.int i64 rm,.map 1,.sl 2 2 0 (List.length p) none]),(1,LObj.map i64 (Zq m)),(2,LObj.row 116 2 (Zg p)),(3,LObj.box 106 [.ptr 0 0,.int i64 at_,.int i64 0,.nils,.bool false])])) f12))]) (.a)))) (.a)))) (.a)))))) (.a))))))) [] .q (by kernel_rfl)
theorem ssync_okO(n:Nat)(at_ tn:Int)(w:List Int)(lo:Bool)(rm:Int)(m m':ML)(p:PL)(hp:p.length<=100000)(hn:p.length<=n)(hb:∀ x∈p,∀ b,x.2=some b->b≠[])(hm:applyP p (Zq m)=Zq m'):Z6 prog C0 (Z3 prog C0 (n+60)) (n+60) 14 [.ptr 0 0] ⟨2,[(0,sO at_ tn (vO w) lo),(1,dO rm m p)]⟩ =
  some (.tup [],⟨2,[(0,sO at_ tn (vO w) false),(1,dO rm m' [])]⟩):=by
 have A:=dsync_ok (n+18) rm m m' p hp (by omega) hb hm
 have f1:=A
 exact drn (fun h=>ai (f1)<|h) (.s (.r [.a,.a,.a,.a,.f (rOf f1)]) (.a)) [] .a (by kernel_rfl)
theorem ssync_okI(n:Nat)(at_ tn:Int)(w:List Int)(lo:Bool)(rm:Int)(m m':ML)(p:PL)(hp:p.length<=100000)(hn:p.length<=n)(hb:∀ x∈p,∀ b,x.2=some b->b≠[])(hm:applyP p (Zq m)=Zq m'):Z6 prog C0 (Z3 prog C0 (n+60)) (n+60) 14 [.ptr 0 0] ⟨2,[(0,sO at_ tn (vI w) lo),(1,dO rm m p)]⟩ =
  some (.tup [],⟨2,[(0,sO at_ tn (vI w) false),(1,dO rm m' [])]⟩):=by
 have A:=dsync_ok (n+18) rm m m' p hp (by omega) hb hm
 have f1:=A
 exact drn (fun h=>ai (f1)<|h) (.s (.r [.a,.a,.a,.a,.f (rOf f1)]) (.a)) [] .a (by kernel_rfl)
abbrev crE(ks:List Int)(cut last i:Int)(N:Nat):LEnv:=[.ptr 0 0,.isl 1 (ints ks),.int i64 cut,.any,.any,.any,.int i64 last,.any,.any,.any,.any,.any,.any,.any,.any,.any,.int i64 N,.int i64 i,.any,.any,.any,.any,.any,.any,.any,.any,.any,.any,.any,.any,.any,.any,.any,.any,.any,.any,.any,.any,.any,.any,.any,.any,.any,.any,.any,.any,.any,.any,.any,.any,.any,.any,.any,.any,.any,.any,.any,.any,.any,.any,.any,.any,.any,.any,.any,.any,.any,.any,.any,.any,.any,.any,.any,.any,.any,.any,.any,.any,.any,.any,.any,.any,.any,.any,.any,.any,.any,.any,.any,.any,.any,.any,.any,.any,.any,.any,.any,.any]
abbrev crX(ks:List Int)(cut last i:Int)(N:Nat):LEnv:=[.ptr 0 0,.isl 1 (ints ks),.int i64 cut,.any,.any,.any,.int i64 last,.any,.any,.any,.any,.any,.any,.any,.any,.any,.int i64 N,.int i64 i,.bool (decide (i<(N:Int))),.any,.any,.any,.any,.any,.any,.any,.any,.any,.any,.any,.any,.any,.any,.any,.any,.any,.any,.any,.any,.any,.any,.any,.any,.any,.any,.any,.any,.any,.any,.any,.any,.any,.any,.any,.any,.any,.any,.any,.any,.any,.any,.any,.any,.any,.any,.any,.any,.any,.any,.any,.any,.any,.any,.any,.any,.any,.any,.any,.any,.any,.any,.any,.any,.any,.any,.any,.any,.any,.any,.any,.any,.any,.any,.any,.any,.any,.any,.any]
abbrev crS(rm:Int)(m:ML)(p:PL):St:=⟨2,[(0,LObj.box 97 [.int i64 rm,.omap i64 (Zn m) (Yl m),.sl 2 1 0 p.length none]),(1,LObj.row 116 2 (Zg p))]⟩
theorem cr_hit(n fu:Nat)(rm:Int)(m:ML)(p:PL)(ks:List Int)(cut last:Int)(k N:Nat)(hN:N<=100000)(hk:k<N)(h1:k<ks.length)(h2:¬ atI ks k=0)(r:LX × LEnv × St)(hr:Z2 prog C0 (n+60) 16 0 1 fu (crE ks cut k ((k:Int)+1) N) (crS rm m p)=some r):
  Z2 prog C0 (n+60) 16 0 1 (fu+1) (crE ks cut last k N) (crS rm m p)=some r:=by
 have f1:decide ((↑k:Int)<(↑N:Int))=true:=by simp;omega
 have f2:decide ((↑k:Int)<((ints ks).length:Int))=true:=by simp;omega
 have f3:(ints ks)[Int.toNat (↑k:Int)]? = some (LV.int i64 (atI ks k)):=by simp (disch:=omega)
 have f4:0<=(↑k:Int)/\(↑k:Int)<((ints ks).length:Int):=by simp;omega
 have f5:LV.bool (if decide ((↑k:Int)<((ints ks).length:Int))=true then !decide (atI ks k=0) else false)=LV.bool true:=by simp;omega
 have f6:LV.int i64 (IntKind.wrap i64 ((↑k:Int)+1))=LV.int i64 ((↑k:Int)+1):=by simp (disch:=omega)
 have f7:=hr;exact dlp (fun h=>ai (congrArg LV.bool f1)<|ai (congrArg some f2)<|ai (congrArg some f2)<|ai (congrArg some f2)<|ai (f4)<|ai (f3)<|ai (congrArg some f2)<|ai (congrArg some f2)<|ai (f5)<|ai (f6)<|ai (Eq.refl (Z9 f7))<|ai (f7)<|h) (.i (.s (.a) (.s (.b true (.a)) (.s (.k (.s (.a) (.s (.r [.a,.a,.a,.a,.a,.g true (.a),.g true (.a),.g true (.e (rOf f3)),.g true (.a),.g true (.a),.v (vOf f5) (.a)]) (.a)))) (.r [.v (vOf f6) (.a)])))) (.h [] (eOf f7) (Zp f7) (rOf f7))) (by kernel_rfl)
theorem cr_miss(n fu:Nat)(rm:Int)(m:ML)(p:PL)(ks:List Int)(cut last:Int)(k N:Nat)(hN:N<=100000)(hk:k<N)(h1:k<ks.length)(h2:atI ks k=0)(r:LX × LEnv × St)(hr:Z2 prog C0 (n+60) 16 0 1 fu (crE ks cut last ((k:Int)+1) N) (crS rm m p)=some r):
  Z2 prog C0 (n+60) 16 0 1 (fu+1) (crE ks cut last k N) (crS rm m p)=some r:=by
 have f1:decide ((↑k:Int)<(↑N:Int))=true:=by simp;omega
 have f2:decide ((↑k:Int)<((ints ks).length:Int))=true:=by simp;omega
 have f3:(ints ks)[Int.toNat (↑k:Int)]? = some (LV.int i64 0):=by (simp (disch:=first | omega | (simp;omega));omega)
 have f4:0<=(↑k:Int)/\(↑k:Int)<((ints ks).length:Int):=by simp;omega
 have f5:LV.bool (if decide ((↑k:Int)<((ints ks).length:Int))=true then false else false)=LV.bool false:=by simp
 have f6:LV.int i64 (IntKind.wrap i64 ((↑k:Int)+1))=LV.int i64 ((↑k:Int)+1):=by simp (disch:=omega)
 have f7:=hr;exact dlp (fun h=>ai (congrArg LV.bool f1)<|ai (congrArg some f2)<|ai (congrArg some f2)<|ai (congrArg some f2)<|ai (f4)<|ai (f3)<|ai (congrArg some f2)<|ai (congrArg some f2)<|ai (f5)<|ai (f6)<|ai (Eq.refl (Z9 f7))<|ai (f7)<|h) (.i (.s (.a) (.s (.b true (.a)) (.s (.k (.s (.a) (.s (.r [.a,.a,.a,.a,.a,.g true (.a),.g true (.a),.g true (.e (rOf f3)),.g true (.a),.g true (.a),.v (vOf f5) (.a)]) (.a)))) (.r [.v (vOf f6) (.a)])))) (.h [] (eOf f7) (Zp f7) (rOf f7))) (by kernel_rfl)
theorem cr_over(n fu:Nat)(rm:Int)(m:ML)(p:PL)(ks:List Int)(cut last:Int)(k N:Nat)(hN:N<=100000)(hk:k<N)(h1:ks.length<=k)(r:LX × LEnv × St)(hr:Z2 prog C0 (n+60) 16 0 1 fu (crE ks cut last ((k:Int)+1) N) (crS rm m p)=some r):
  Z2 prog C0 (n+60) 16 0 1 (fu+1) (crE ks cut last k N) (crS rm m p)=some r:=by
 have f1:decide ((↑k:Int)<(↑N:Int))=true:=by simp;omega
 have f2:decide ((↑k:Int)<((ints ks).length:Int))=false:=by simp;omega
 have f3:Xf (decide ((↑k:Int)<((ints ks).length:Int))) LV.any (LV.bool false)=some (LV.bool false):=by simp;omega
 have f4:LV.int i64 (IntKind.wrap i64 ((↑k:Int)+1))=LV.int i64 ((↑k:Int)+1):=by simp (disch:=omega)
 have f5:=hr;exact dlp (fun h=>ai (congrArg LV.bool f1)<|ai (congrArg some f2)<|ai (congrArg some f2)<|ai (congrArg some f2)<|ai (congrArg some f2)<|ai (congrArg some f2)<|ai (Y3 (st:=(St.mk 2 [(0,LObj.box 97 [.int i64 rm,.omap i64 (Zn m) (Yl m),.sl 2 1 0 (List.length p) none]),(1,LObj.row 116 2 (Zg p))])) f3)<|ai (f4)<|ai (Eq.refl (Z9 f5))<|ai (f5)<|h) (.i (.s (.a) (.s (.b true (.a)) (.s (.k (.s (.a) (.s (.r [.a,.a,.a,.a,.a,.g false (.a),.g false (.a),.g false (.a),.g false (.a),.g false (.a),.t (rOf (Y3 (st:=(St.mk 2 [(0,LObj.box 97 [.int i64 rm,.omap i64 (Zn m) (Yl m),.sl 2 1 0 (List.length p) none]),(1,LObj.row 116 2 (Zg p))])) f3))]) (.a)))) (.r [.v (vOf f4) (.a)])))) (.h [] (eOf f5) (Zp f5) (rOf f5))) (by kernel_rfl)
theorem cr_end(n fu:Nat)(rm:Int)(m:ML)(p:PL)(ks:List Int)(cut last:Int)(N:Nat)(hN:N<=100000):
  Z2 prog C0 (n+60) 16 0 1 (fu+1) (crE ks cut last N N) (crS rm m p)=some (.exit 0,crX ks cut last N N,crS rm m p):=by
 have f1:decide ((↑N:Int)<(↑N:Int))=false:=by simp
 exact dlp (fun h=>ai (congrArg LV.bool f1)<|h) (.i (.s (.a) (.s (.b false (.a)) .a)) (.a)) (by kernel_rfl)
abbrev crF(ks:List Int)(cut last i:Int)(N:Nat):LEnv:=[.ptr 0 0,.isl 1 (ints ks),.int i64 cut,.any,.any,.any,.int i64 last,.any,.map 3,.any,.any,.any,.any,.any,.any,.any,.any,.any,.any,.any,.any,.any,.any,.any,.any,.any,.any,.any,.any,.any,.any,.any,.any,.any,.any,.any,.any,.any,.any,.any,.any,.sl 2 2 0 N none,.int i64 N,.int i64 i,.any,.any,.any,.any,.any,.any,.any,.any,.any,.any,.any,.any,.any,.any,.any,.any,.any,.any,.any,.any,.any,.any,.any,.any,.any,.any,.any,.any,.any,.any,.any,.any,.any,.any,.any,.any,.any,.any,.any,.any,.any,.any,.any,.any,.any,.any,.any,.any,.any,.any,.any,.any,.any,.any]
abbrev crG(ks:List Int)(cut last i:Int)(N:Nat):LEnv:=[.ptr 0 0,.isl 1 (ints ks),.int i64 cut,.any,.any,.any,.int i64 last,.any,.map 3,.any,.any,.any,.any,.any,.any,.any,.any,.any,.any,.any,.any,.any,.any,.any,.any,.any,.any,.any,.any,.any,.any,.any,.any,.any,.any,.any,.any,.any,.any,.any,.any,.sl 2 2 0 N none,.int i64 N,.int i64 i,.bool (decide (i<(N:Int))),.any,.any,.any,.any,.any,.any,.any,.any,.any,.any,.any,.any,.any,.any,.any,.any,.any,.any,.any,.any,.any,.any,.any,.any,.any,.any,.any,.any,.any,.any,.any,.any,.any,.any,.any,.any,.any,.any,.any,.any,.any,.any,.any,.any,.any,.any,.any,.any,.any,.any,.any,.any,.any]
theorem zq7_25(a0:Nat)(q0:Nat)(q1:Nat):LV.pel q0 q1 (0+Int.toNat (↑a0:Int)) 0=LV.pel q0 q1 a0 0:=by simp
theorem cs_pastS(n fu:Nat)(rm:Int)(m:ML)(p:PL)(hp:p.length<=100000)(w:List (Int × LV))(ks:List Int)(cut last:Int)(k:Nat)(hk:k<p.length)(a:Int)(b:List Int)(hx:(Zg p)[k]? = some (.agg [.int .i64 a,.isl 1 (bys b)]))(h1:last<k)(r:LX × LEnv × St)(hr:Z2 prog C0 (n+60) 16 1 1 fu (crF ks cut last ((k:Int)+1) p.length) (aS rm m p w)=some r):
  Z2 prog C0 (n+60) 16 1 1 (fu+1) (crF ks cut last k p.length) (aS rm m p w)=some r:=by
 have f1:decide ((↑k:Int)<(p.length:Int))=true:=by simp;omega
 have f2:0<=(↑k:Int)/\(↑k:Int)<(p.length:Int):=by omega
 have f3:=zq7_25 k 2 2;have f4:(Zg p)[k]? = some (LV.agg [.int i64 a,.isl 1 (bys b)]):=hx;have f5:decide (last<(↑k:Int))=true:=by simp;omega
 have f6:Xf (decide (last<(↑k:Int))) (LV.bool true) LV.any=some (LV.bool true):=by simp;omega
 have f7:LV.int i64 (IntKind.wrap i64 ((↑k:Int)+1))=LV.int i64 ((↑k:Int)+1):=by simp (disch:=omega)
 have f8:=hr;exact dlp (fun h=>ai (congrArg LV.bool f1)<|ai (f2)<|ai (f3)<|ai (f4)<|ai (congrArg some f5)<|ai (congrArg some f5)<|ai (congrArg some f5)<|ai (congrArg some f5)<|ai (congrArg some f5)<|ai (Y3 (st:=(St.mk 5 [(4,LObj.box 116 [.int i64 a,.isl 1 (bys b)]),(0,LObj.box 97 [.int i64 rm,.map 1,.sl 2 2 0 (List.length p) none]),(1,LObj.map i64 (Zq m)),(2,LObj.row 116 2 (Zg p)),(3,LObj.map i64 w)])) f6)<|ai (f7)<|ai (Eq.refl (Z9 f8))<|ai (f8)<|h) (.i (.s (.a) (.s (.b true (.a)) (.s (.k (.s (.r [.a,.v (vOf f3) (.q),.e (rOf f4)]) (.s (.s (.r [.a,.a,.a,.a,.g true (.a),.g true (.a),.g true (.a),.g true (.a),.g true (.a),.t (rOf (Y3 (st:=(St.mk 5 [(4,LObj.box 116 [.int i64 a,.isl 1 (bys b)]),(0,LObj.box 97 [.int i64 rm,.map 1,.sl 2 2 0 (List.length p) none]),(1,LObj.map i64 (Zq m)),(2,LObj.row 116 2 (Zg p)),(3,LObj.map i64 w)])) f6))]) (.a)) .a))) (.r [.v (vOf f7) (.a)])))) (.h [] (eOf f8) (Zp f8) (rOf f8))) (by kernel_rfl)
theorem cs_pastN(n fu:Nat)(rm:Int)(m:ML)(p:PL)(hp:p.length<=100000)(w:List (Int × LV))(ks:List Int)(cut last:Int)(k:Nat)(hk:k<p.length)(a:Int)(hx:(Zg p)[k]? = some (.agg [.int .i64 a,.nils]))(h1:last<k)(r:LX × LEnv × St)(hr:Z2 prog C0 (n+60) 16 1 1 fu (crF ks cut last ((k:Int)+1) p.length) (aS rm m p w)=some r):
  Z2 prog C0 (n+60) 16 1 1 (fu+1) (crF ks cut last k p.length) (aS rm m p w)=some r:=by
 have f1:decide ((↑k:Int)<(p.length:Int))=true:=by simp;omega
 have f2:0<=(↑k:Int)/\(↑k:Int)<(p.length:Int):=by omega
 have f3:=zq7_25 k 2 2;have f4:(Zg p)[k]? = some (LV.agg [.int i64 a,.nils]):=hx;have f5:decide (last<(↑k:Int))=true:=by simp;omega
 have f6:Xf (decide (last<(↑k:Int))) (LV.bool true) LV.any=some (LV.bool true):=by simp;omega
 have f7:LV.int i64 (IntKind.wrap i64 ((↑k:Int)+1))=LV.int i64 ((↑k:Int)+1):=by simp (disch:=omega)
 have f8:=hr;exact dlp (fun h=>ai (congrArg LV.bool f1)<|ai (f2)<|ai (f3)<|ai (f4)<|ai (congrArg some f5)<|ai (congrArg some f5)<|ai (congrArg some f5)<|ai (congrArg some f5)<|ai (congrArg some f5)<|ai (Y3 (st:=(St.mk 5 [(4,LObj.box 116 [.int i64 a,.nils]),(0,LObj.box 97 [.int i64 rm,.map 1,.sl 2 2 0 (List.length p) none]),(1,LObj.map i64 (Zq m)),(2,LObj.row 116 2 (Zg p)),(3,LObj.map i64 w)])) f6)<|ai (f7)<|ai (Eq.refl (Z9 f8))<|ai (f8)<|h) (.i (.s (.a) (.s (.b true (.a)) (.s (.k (.s (.r [.a,.v (vOf f3) (.q),.e (rOf f4)]) (.s (.s (.r [.a,.a,.a,.a,.g true (.a),.g true (.a),.g true (.a),.g true (.a),.g true (.a),.t (rOf (Y3 (st:=(St.mk 5 [(4,LObj.box 116 [.int i64 a,.nils]),(0,LObj.box 97 [.int i64 rm,.map 1,.sl 2 2 0 (List.length p) none]),(1,LObj.map i64 (Zq m)),(2,LObj.row 116 2 (Zg p)),(3,LObj.map i64 w)])) f6))]) (.a)) .a))) (.r [.v (vOf f7) (.a)])))) (.h [] (eOf f8) (Zp f8) (rOf f8))) (by kernel_rfl)
theorem cs_lostS(n fu:Nat)(rm:Int)(m:ML)(p:PL)(hp:p.length<=100000)(w:List (Int × LV))(ks:List Int)(cut last:Int)(k:Nat)(hk:k<p.length)(a:Int)(b:List Int)(hx:(Zg p)[k]? = some (.agg [.int .i64 a,.isl 1 (bys b)]))(h1:(k:Int)<=last)(h2:k<ks.length)(h3:atI ks k=0)(r:LX × LEnv × St)(hr:Z2 prog C0 (n+60) 16 1 1 fu (crF ks cut last ((k:Int)+1) p.length) (aS rm m p w)=some r):
  Z2 prog C0 (n+60) 16 1 1 (fu+1) (crF ks cut last k p.length) (aS rm m p w)=some r:=by
 have f1:decide ((↑k:Int)<(p.length:Int))=true:=by simp;omega
 have f2:0<=(↑k:Int)/\(↑k:Int)<(p.length:Int):=by omega
 have f3:=zq7_25 k 2 2;have f4:(Zg p)[k]? = some (LV.agg [.int i64 a,.isl 1 (bys b)]):=hx;have f5:decide (last<(↑k:Int))=false:=by simp;omega
 have f6:(ints ks)[Int.toNat (↑k:Int)]? = some (LV.int i64 0):=by (simp (disch:=first | omega | (simp;omega));omega)
 have f7:0<=(↑k:Int)/\(↑k:Int)<((ints ks).length:Int):=by simp;omega
 have f8:LV.bool (if decide (last<(↑k:Int))=true then true else true)=LV.bool true:=by simp
 have f9:LV.int i64 (IntKind.wrap i64 ((↑k:Int)+1))=LV.int i64 ((↑k:Int)+1):=by simp (disch:=omega)
 have f10:=hr;exact dlp (fun h=>ai (congrArg LV.bool f1)<|ai (f2)<|ai (f3)<|ai (f4)<|ai (congrArg some f5)<|ai (congrArg some f5)<|ai (congrArg some f5)<|ai (f7)<|ai (f6)<|ai (congrArg some f5)<|ai (congrArg some f5)<|ai (f8)<|ai (f9)<|ai (Eq.refl (Z9 f10))<|ai (f10)<|h) (.i (.s (.a) (.s (.b true (.a)) (.s (.k (.s (.r [.a,.v (vOf f3) (.q),.e (rOf f4)]) (.s (.s (.r [.a,.a,.a,.a,.g false (.a),.g false (.a),.g false (.e (rOf f6)),.g false (.a),.g false (.a),.v (vOf f8) (.a)]) (.a)) .a))) (.r [.v (vOf f9) (.a)])))) (.h [] (eOf f10) (Zp f10) (rOf f10))) (by kernel_rfl)
theorem cs_lostN(n fu:Nat)(rm:Int)(m:ML)(p:PL)(hp:p.length<=100000)(w:List (Int × LV))(ks:List Int)(cut last:Int)(k:Nat)(hk:k<p.length)(a:Int)(hx:(Zg p)[k]? = some (.agg [.int .i64 a,.nils]))(h1:(k:Int)<=last)(h2:k<ks.length)(h3:atI ks k=0)(r:LX × LEnv × St)(hr:Z2 prog C0 (n+60) 16 1 1 fu (crF ks cut last ((k:Int)+1) p.length) (aS rm m p w)=some r):
  Z2 prog C0 (n+60) 16 1 1 (fu+1) (crF ks cut last k p.length) (aS rm m p w)=some r:=by
 have f1:decide ((↑k:Int)<(p.length:Int))=true:=by simp;omega
 have f2:0<=(↑k:Int)/\(↑k:Int)<(p.length:Int):=by omega
 have f3:=zq7_25 k 2 2;have f4:(Zg p)[k]? = some (LV.agg [.int i64 a,.nils]):=hx;have f5:decide (last<(↑k:Int))=false:=by simp;omega
 have f6:(ints ks)[Int.toNat (↑k:Int)]? = some (LV.int i64 0):=by (simp (disch:=first | omega | (simp;omega));omega)
 have f7:0<=(↑k:Int)/\(↑k:Int)<((ints ks).length:Int):=by simp;omega
 have f8:LV.bool (if decide (last<(↑k:Int))=true then true else true)=LV.bool true:=by simp
 have f9:LV.int i64 (IntKind.wrap i64 ((↑k:Int)+1))=LV.int i64 ((↑k:Int)+1):=by simp (disch:=omega)
 have f10:=hr;exact dlp (fun h=>ai (congrArg LV.bool f1)<|ai (f2)<|ai (f3)<|ai (f4)<|ai (congrArg some f5)<|ai (congrArg some f5)<|ai (congrArg some f5)<|ai (f7)<|ai (f6)<|ai (congrArg some f5)<|ai (congrArg some f5)<|ai (f8)<|ai (f9)<|ai (Eq.refl (Z9 f10))<|ai (f10)<|h) (.i (.s (.a) (.s (.b true (.a)) (.s (.k (.s (.r [.a,.v (vOf f3) (.q),.e (rOf f4)]) (.s (.s (.r [.a,.a,.a,.a,.g false (.a),.g false (.a),.g false (.e (rOf f6)),.g false (.a),.g false (.a),.v (vOf f8) (.a)]) (.a)) .a))) (.r [.v (vOf f9) (.a)])))) (.h [] (eOf f10) (Zp f10) (rOf f10))) (by kernel_rfl)
theorem cs_free1(n fu:Nat)(rm:Int)(m:ML)(p:PL)(hp:p.length<=100000)(w:List (Int × LV))(ks:List Int)(cut last:Int)(k:Nat)(hk:k<p.length)(a:Int)(hx:(Zg p)[k]? = some (.agg [.int .i64 a,.nils]))(h1:(k:Int)<last)(h2:k<ks.length)(h3:¬ atI ks k=0)(r:LX × LEnv × St)(hr:Z2 prog C0 (n+60) 16 1 1 fu (crF ks cut last ((k:Int)+1) p.length) (aS rm m p (kdel w a))=some r):
  Z2 prog C0 (n+60) 16 1 1 (fu+1) (crF ks cut last k p.length) (aS rm m p w)=some r:=by
 have f1:decide ((↑k:Int)<(p.length:Int))=true:=by simp;omega
 have f2:0<=(↑k:Int)/\(↑k:Int)<(p.length:Int):=by omega
 have f3:=zq7_25 k 2 2;have f4:(Zg p)[k]? = some (LV.agg [.int i64 a,.nils]):=hx;have f5:decide (last<(↑k:Int))=false:=by simp;omega
 have f6:(ints ks)[Int.toNat (↑k:Int)]? = some (LV.int i64 (atI ks k)):=by simp (disch:=omega)
 have f7:0<=(↑k:Int)/\(↑k:Int)<((ints ks).length:Int):=by simp;omega
 have f8:LV.bool (if decide (last<(↑k:Int))=true then true else decide (atI ks k=0))=LV.bool false:=by simp;omega
 have f9:decide ((↑k:Int)=last)=false:=by simp;omega
 have f10:Xf (decide ((↑k:Int)=last)) LV.any (LV.bool false)=some (LV.bool false):=by simp;omega
 have f11:=bput_none (n+49) a w;have f12:LV.int i64 (IntKind.wrap i64 ((↑k:Int)+1))=LV.int i64 ((↑k:Int)+1):=by simp (disch:=omega)
 have f13:=hr;exact dlp (fun h=>ai (congrArg LV.bool f1)<|ai (f2)<|ai (f3)<|ai (f4)<|ai (congrArg some f5)<|ai (congrArg some f5)<|ai (congrArg some f5)<|ai (f7)<|ai (f6)<|ai (congrArg some f5)<|ai (congrArg some f5)<|ai (f8)<|ai (congrArg some f9)<|ai (congrArg some f9)<|ai (congrArg some f9)<|ai (Y3 (st:=(St.mk 5 [(4,LObj.box 116 [.int i64 a,.nils]),(0,LObj.box 97 [.int i64 rm,.map 1,.sl 2 2 0 (List.length p) none]),(1,LObj.map i64 (Zq m)),(2,LObj.row 116 2 (Zg p)),(3,LObj.map i64 w)])) f10)<|ai (f11)<|ai (f12)<|ai (Eq.refl (Z9 f13))<|ai (f13)<|h) (.i (.s (.a) (.s (.b true (.a)) (.s (.k (.s (.r [.a,.v (vOf f3) (.q),.e (rOf f4)]) (.s (.s (.r [.a,.a,.a,.a,.g false (.a),.g false (.a),.g false (.e (rOf f6)),.g false (.a),.g false (.a),.v (vOf f8) (.a)]) (.a)) (.s (.s (.r [.a,.a,.a,.a,.g false (.a),.g false (.a),.g false (.a),.t (rOf (Y3 (st:=(St.mk 5 [(4,LObj.box 116 [.int i64 a,.nils]),(0,LObj.box 97 [.int i64 rm,.map 1,.sl 2 2 0 (List.length p) none]),(1,LObj.map i64 (Zq m)),(2,LObj.row 116 2 (Zg p)),(3,LObj.map i64 w)])) f10))]) (.a)) (.r [.a,.a,.f (rOf f11)]))))) (.r [.v (vOf f12) (.a)])))) (.h [] (eOf f13) (Zp f13) (rOf f13))) (by kernel_rfl)
theorem cs_free2(n fu:Nat)(rm:Int)(m:ML)(p:PL)(hp:p.length<=100000)(w:List (Int × LV))(ks:List Int)(cut:Int)(k:Nat)(hk:k<p.length)(a:Int)(hx:(Zg p)[k]? = some (.agg [.int .i64 a,.nils]))(h2:k<ks.length)(h3:¬ atI ks k=0)(r:LX × LEnv × St)(hr:Z2 prog C0 (n+60) 16 1 1 fu (crF ks cut k ((k:Int)+1) p.length) (aS rm m p (kdel w a))=some r):
  Z2 prog C0 (n+60) 16 1 1 (fu+1) (crF ks cut k k p.length) (aS rm m p w)=some r:=by
 have f1:decide ((↑k:Int)<(p.length:Int))=true:=by simp;omega
 have f2:0<=(↑k:Int)/\(↑k:Int)<(p.length:Int):=by omega
 have f3:=zq7_25 k 2 2;have f4:(Zg p)[k]? = some (LV.agg [.int i64 a,.nils]):=hx;have f5:decide ((↑k:Int)<(↑k:Int))=false:=by simp
 have f6:(ints ks)[Int.toNat (↑k:Int)]? = some (LV.int i64 (atI ks k)):=by simp (disch:=omega)
 have f7:0<=(↑k:Int)/\(↑k:Int)<((ints ks).length:Int):=by simp;omega
 have f8:LV.bool (if decide ((↑k:Int)<(↑k:Int))=true then true else decide (atI ks k=0))=LV.bool false:=by simp;omega
 have f9:decide ((↑k:Int)=(↑k:Int))=true:=by simp
 have f10:LV.bool (if decide ((↑k:Int)=(↑k:Int))=true then false else false)=LV.bool false:=by simp
 have f11:=bput_none (n+49) a w;have f12:LV.int i64 (IntKind.wrap i64 ((↑k:Int)+1))=LV.int i64 ((↑k:Int)+1):=by simp (disch:=omega)
 have f13:=hr;exact dlp (fun h=>ai (congrArg LV.bool f1)<|ai (f2)<|ai (f3)<|ai (f4)<|ai (congrArg some f5)<|ai (congrArg some f5)<|ai (congrArg some f5)<|ai (f7)<|ai (f6)<|ai (congrArg some f5)<|ai (congrArg some f5)<|ai (f8)<|ai (congrArg some f9)<|ai (congrArg some f9)<|ai (congrArg some f9)<|ai (f10)<|ai (f11)<|ai (f12)<|ai (Eq.refl (Z9 f13))<|ai (f13)<|h) (.i (.s (.a) (.s (.b true (.a)) (.s (.k (.s (.r [.a,.v (vOf f3) (.q),.e (rOf f4)]) (.s (.s (.r [.a,.a,.a,.a,.g false (.a),.g false (.a),.g false (.e (rOf f6)),.g false (.a),.g false (.a),.v (vOf f8) (.a)]) (.a)) (.s (.s (.r [.a,.a,.a,.a,.g true (.a),.g true (.a),.g true (.a),.v (vOf f10) (.a)]) (.a)) (.r [.a,.a,.f (rOf f11)]))))) (.r [.v (vOf f12) (.a)])))) (.h [] (eOf f13) (Zp f13) (rOf f13))) (by kernel_rfl)
theorem cs_put1(n fu:Nat)(rm:Int)(m:ML)(p:PL)(hp:p.length<=100000)(w:List (Int × LV))(ks:List Int)(cut last:Int)(k:Nat)(hk:k<p.length)(a:Int)(b:List Int)(hx:(Zg p)[k]? = some (.agg [.int .i64 a,.isl 1 (bys b)]))(hb:b.length=64)(h1:(k:Int)<last)(h2:k<ks.length)(h3:¬ atI ks k=0)(r:LX × LEnv × St)(hr:Z2 prog C0 (n+60) 16 1 1 fu (crF ks cut last ((k:Int)+1) p.length) (aS rm m p (kput w a (.isl 1 (bys b))))=some r):
  Z2 prog C0 (n+60) 16 1 1 (fu+1) (crF ks cut last k p.length) (aS rm m p w)=some r:=by
 have hb2:b≠[]:=by intro h;subst h;simp at hb
 have f1:decide ((↑k:Int)<(p.length:Int))=true:=by simp;omega
 have f2:0<=(↑k:Int)/\(↑k:Int)<(p.length:Int):=by omega
 have f3:=zq7_25 k 2 2;have f4:(Zg p)[k]? = some (LV.agg [.int i64 a,.isl 1 (bys b)]):=hx;have f5:decide (last<(↑k:Int))=false:=by simp;omega
 have f6:(ints ks)[Int.toNat (↑k:Int)]? = some (LV.int i64 (atI ks k)):=by simp (disch:=omega)
 have f7:0<=(↑k:Int)/\(↑k:Int)<((ints ks).length:Int):=by simp;omega
 have f8:LV.bool (if decide (last<(↑k:Int))=true then true else decide (atI ks k=0))=LV.bool false:=by simp;omega
 have f9:decide ((↑k:Int)=last)=false:=by simp;omega
 have f10:Xf (decide ((↑k:Int)=last)) LV.any (LV.bool false)=some (LV.bool false):=by simp;omega
 have f11:=bput_some (n+49) a b w hb2;have f12:LV.int i64 (IntKind.wrap i64 ((↑k:Int)+1))=LV.int i64 ((↑k:Int)+1):=by simp (disch:=omega)
 have f13:=hr;exact dlp (fun h=>ai (congrArg LV.bool f1)<|ai (f2)<|ai (f3)<|ai (f4)<|ai (congrArg some f5)<|ai (congrArg some f5)<|ai (congrArg some f5)<|ai (f7)<|ai (f6)<|ai (congrArg some f5)<|ai (congrArg some f5)<|ai (f8)<|ai (congrArg some f9)<|ai (congrArg some f9)<|ai (congrArg some f9)<|ai (Y3 (st:=(St.mk 5 [(4,LObj.box 116 [.int i64 a,.isl 1 (bys b)]),(0,LObj.box 97 [.int i64 rm,.map 1,.sl 2 2 0 (List.length p) none]),(1,LObj.map i64 (Zq m)),(2,LObj.row 116 2 (Zg p)),(3,LObj.map i64 w)])) f10)<|ai (f11)<|ai (f12)<|ai (Eq.refl (Z9 f13))<|ai (f13)<|h) (.i (.s (.a) (.s (.b true (.a)) (.s (.k (.s (.r [.a,.v (vOf f3) (.q),.e (rOf f4)]) (.s (.s (.r [.a,.a,.a,.a,.g false (.a),.g false (.a),.g false (.e (rOf f6)),.g false (.a),.g false (.a),.v (vOf f8) (.a)]) (.a)) (.s (.s (.r [.a,.a,.a,.a,.g false (.a),.g false (.a),.g false (.a),.t (rOf (Y3 (st:=(St.mk 5 [(4,LObj.box 116 [.int i64 a,.isl 1 (bys b)]),(0,LObj.box 97 [.int i64 rm,.map 1,.sl 2 2 0 (List.length p) none]),(1,LObj.map i64 (Zq m)),(2,LObj.row 116 2 (Zg p)),(3,LObj.map i64 w)])) f10))]) (.a)) (.r [.a,.a,.f (rOf f11)]))))) (.r [.v (vOf f12) (.a)])))) (.h [] (eOf f13) (Zp f13) (rOf f13))) (by kernel_rfl)
theorem zq7_27(a0:Nat):LV.bool (if decide ((↑a0:Int)=(↑a0:Int))=true then true else false)=LV.bool true:=by simp
theorem cs_put2(n fu:Nat)(rm:Int)(m:ML)(p:PL)(hp:p.length<=100000)(w:List (Int × LV))(ks:List Int)(cut:Int)(k:Nat)(hk:k<p.length)(a:Int)(b:List Int)(hx:(Zg p)[k]? = some (.agg [.int .i64 a,.isl 1 (bys b)]))(hb:b.length=64)(h2:k<ks.length)(h3:¬ atI ks k=0)(hc:cut<0)(r:LX × LEnv × St)(hr:Z2 prog C0 (n+60) 16 1 1 fu (crF ks cut k ((k:Int)+1) p.length) (aS rm m p (kput w a (.isl 1 (bys b))))=some r):
  Z2 prog C0 (n+60) 16 1 1 (fu+1) (crF ks cut k k p.length) (aS rm m p w)=some r:=by
 have hb2:b≠[]:=by intro h;subst h;simp at hb
 have f1:decide ((↑k:Int)<(p.length:Int))=true:=by simp;omega
 have f2:0<=(↑k:Int)/\(↑k:Int)<(p.length:Int):=by omega
 have f3:=zq7_25 k 2 2;have f4:(Zg p)[k]? = some (LV.agg [.int i64 a,.isl 1 (bys b)]):=hx;have f5:decide ((↑k:Int)<(↑k:Int))=false:=by simp
 have f6:(ints ks)[Int.toNat (↑k:Int)]? = some (LV.int i64 (atI ks k)):=by simp (disch:=omega)
 have f7:0<=(↑k:Int)/\(↑k:Int)<((ints ks).length:Int):=by simp;omega
 have f8:LV.bool (if decide ((↑k:Int)<(↑k:Int))=true then true else decide (atI ks k=0))=LV.bool false:=by simp;omega
 have f9:decide ((↑k:Int)=(↑k:Int))=true:=by simp
 have f10:List.isEmpty (bys b)=false:=by simp;omega
 have f11:=zq7_27 k;have f12:LV.bool (if true=true then decide (0<=cut) else false)=LV.bool false:=by simp;omega
 have f13:=bput_some (n+49) a b w hb2;have f14:LV.int i64 (IntKind.wrap i64 ((↑k:Int)+1))=LV.int i64 ((↑k:Int)+1):=by simp (disch:=omega)
 have f15:=hr;exact dlp (fun h=>ai (congrArg LV.bool f1)<|ai (f2)<|ai (f3)<|ai (f4)<|ai (congrArg some f5)<|ai (congrArg some f5)<|ai (congrArg some f5)<|ai (f7)<|ai (f6)<|ai (congrArg some f5)<|ai (congrArg some f5)<|ai (f8)<|ai (congrArg some f9)<|ai (congrArg some f9)<|ai (congrArg some f9)<|ai (f10)<|ai (f11)<|ai (f12)<|ai (f13)<|ai (f14)<|ai (Eq.refl (Z9 f15))<|ai (f15)<|h) (.i (.s (.a) (.s (.b true (.a)) (.s (.k (.s (.r [.a,.v (vOf f3) (.q),.e (rOf f4)]) (.s (.s (.r [.a,.a,.a,.a,.g false (.a),.g false (.a),.g false (.e (rOf f6)),.g false (.a),.g false (.a),.v (vOf f8) (.a)]) (.a)) (.s (.s (.r [.a,.a,.a,.a,.g true (.a),.g true (.a),.g true (.q),.v (vOf f11) (.a),.a,.a,.a,.v (vOf f12) (.a)]) (.a)) (.r [.a,.a,.f (rOf f13)]))))) (.r [.v (vOf f14) (.a)])))) (.h [] (eOf f15) (Zp f15) (rOf f15))) (by kernel_rfl)
theorem cs_put3(n fu:Nat)(rm:Int)(m:ML)(p:PL)(hp:p.length<=100000)(w:List (Int × LV))(ks:List Int)(cut:Int)(k:Nat)(hk:k<p.length)(a:Int)(b:List Int)(hx:(Zg p)[k]? = some (.agg [.int .i64 a,.isl 1 (bys b)]))(hb:b.length=64)(h2:k<ks.length)(h3:¬ atI ks k=0)(hc:64<=cut)(r:LX × LEnv × St)(hr:Z2 prog C0 (n+60) 16 1 1 fu (crF ks cut k ((k:Int)+1) p.length) (aS rm m p (kput w a (.isl 1 (bys b))))=some r):
  Z2 prog C0 (n+60) 16 1 1 (fu+1) (crF ks cut k k p.length) (aS rm m p w)=some r:=by
 have hb2:b≠[]:=by intro h;subst h;simp at hb
 have f1:decide ((↑k:Int)<(p.length:Int))=true:=by simp;omega
 have f2:0<=(↑k:Int)/\(↑k:Int)<(p.length:Int):=by omega
 have f3:=zq7_25 k 2 2;have f4:(Zg p)[k]? = some (LV.agg [.int i64 a,.isl 1 (bys b)]):=hx;have f5:decide ((↑k:Int)<(↑k:Int))=false:=by simp
 have f6:(ints ks)[Int.toNat (↑k:Int)]? = some (LV.int i64 (atI ks k)):=by simp (disch:=omega)
 have f7:0<=(↑k:Int)/\(↑k:Int)<((ints ks).length:Int):=by simp;omega
 have f8:LV.bool (if decide ((↑k:Int)<(↑k:Int))=true then true else decide (atI ks k=0))=LV.bool false:=by simp;omega
 have f9:decide ((↑k:Int)=(↑k:Int))=true:=by simp
 have f10:List.isEmpty (bys b)=false:=by simp;omega
 have f11:=zq7_27 k;have f12:LV.bool (if true=true then decide (0<=cut) else false)=LV.bool true:=by simp;omega
 have f13:LV.bool (if true=true then decide (cut<64) else false)=LV.bool false:=by simp;omega
 have f14:=bput_some (n+49) a b w hb2;have f15:LV.int i64 (IntKind.wrap i64 ((↑k:Int)+1))=LV.int i64 ((↑k:Int)+1):=by simp (disch:=omega)
 have f16:=hr;exact dlp (fun h=>ai (congrArg LV.bool f1)<|ai (f2)<|ai (f3)<|ai (f4)<|ai (congrArg some f5)<|ai (congrArg some f5)<|ai (congrArg some f5)<|ai (f7)<|ai (f6)<|ai (congrArg some f5)<|ai (congrArg some f5)<|ai (f8)<|ai (congrArg some f9)<|ai (congrArg some f9)<|ai (congrArg some f9)<|ai (f10)<|ai (f11)<|ai (f12)<|ai (f13)<|ai (f14)<|ai (f15)<|ai (Eq.refl (Z9 f16))<|ai (f16)<|h) (.i (.s (.a) (.s (.b true (.a)) (.s (.k (.s (.r [.a,.v (vOf f3) (.q),.e (rOf f4)]) (.s (.s (.r [.a,.a,.a,.a,.g false (.a),.g false (.a),.g false (.e (rOf f6)),.g false (.a),.g false (.a),.v (vOf f8) (.a)]) (.a)) (.s (.s (.r [.a,.a,.a,.a,.g true (.a),.g true (.a),.g true (.q),.v (vOf f11) (.a),.a,.a,.a,.v (vOf f12) (.a),.a,.a,.a,.v (vOf f13) (.a)]) (.a)) (.r [.a,.a,.f (rOf f14)]))))) (.r [.v (vOf f15) (.a)])))) (.h [] (eOf f16) (Zp f16) (rOf f16))) (by kernel_rfl)
theorem cs_torn(n fu:Nat)(rm:Int)(m:ML)(p:PL)(hp:p.length<=100000)(w:List (Int × LV))(ks:List Int)(cut:Int)(k:Nat)(hk:k<p.length)(a:Int)(b:List Int)(hx:(Zg p)[k]? = some (.agg [.int .i64 a,.isl 1 (bys b)]))(hb:b.length=64)(h2:k<ks.length)(h3:¬ atI ks k=0)(hc:0<=cut)(hc2:cut<64)(c:List Int)(hg:X4 w a=some (.isl 1 (bys c)))(r:LX × LEnv × St)(hr:Z2 prog C0 (n+60) 16 1 1 fu (crF ks cut k ((k:Int)+1) p.length) (aS rm m p (kput w a (.isl 1 (bys (Ze (blk c) 0 (b.take cut.toNat))))))=some r):
  Z2 prog C0 (n+60) 16 1 1 (fu+1) (crF ks cut k k p.length) (aS rm m p w)=some r:=by
 have hb2:b≠[]:=by intro h;subst h;simp at hb
 have f1:decide ((↑k:Int)<(p.length:Int))=true:=by simp;omega
 have f2:0<=(↑k:Int)/\(↑k:Int)<(p.length:Int):=by omega
 have f3:=zq7_25 k 2 2;have f4:(Zg p)[k]? = some (LV.agg [.int i64 a,.isl 1 (bys b)]):=hx;have f5:decide ((↑k:Int)<(↑k:Int))=false:=by simp
 have f6:(ints ks)[Int.toNat (↑k:Int)]? = some (LV.int i64 (atI ks k)):=by simp (disch:=omega)
 have f7:0<=(↑k:Int)/\(↑k:Int)<((ints ks).length:Int):=by simp;omega
 have f8:LV.bool (if decide ((↑k:Int)<(↑k:Int))=true then true else decide (atI ks k=0))=LV.bool false:=by simp;omega
 have f9:decide ((↑k:Int)=(↑k:Int))=true:=by simp
 have f10:List.isEmpty (bys b)=false:=by simp;omega
 have f11:=zq7_27 k;have f12:LV.bool (if true=true then decide (0<=cut) else false)=LV.bool true:=by simp;omega
 have f13:LV.bool (if true=true then decide (cut<64) else false)=LV.bool true:=by simp;omega
 have f14:X4 w a=some (LV.isl 1 (bys c)):=hg;have f15:=whole_ok (n+50) c;have f16:(0:Int)<=(0:Int)/\(0:Int)<=Option.getD (some cut) ((bys b).length:Int)/\Option.getD (some cut) ((bys b).length:Int)<=((bys b).length:Int):=by simp;omega
 have f17:=zq7_15 cut b;have f18:=zq7_17 cut b;have f19:64<=List.length (bys (blk c)):=by simp
 have f20:LV.int i64 (↑(min (List.length (Zo (bys (List.take (cut.toNat) b)))) 64):Int)=LV.int i64 (max cut 0):=by simp (disch:=omega)
 have f21:LObj.row 5 1 (Zr (bys (blk c)) 0 (List.take (min (List.length (Zo (bys (List.take (cut.toNat) b)))) 64) (Zo (bys (List.take (cut.toNat) b)))))=LObj.row 5 1 (bys (Ze (blk c) 0 (List.take (cut.toNat) b))):=by simp (disch:=first | omega | (simp;omega))
 have f22:LV.agg [.int i64 a,if 1=1 then if 1=1/\0+64<=List.length (bys (Ze (blk c) 0 (List.take (cut.toNat) b)))/\X1 64 none=true then LV.isl 1 (List.take 64 (List.drop 0 (bys (Ze (blk c) 0 (List.take (cut.toNat) b))))) else LV.any else LV.sl 1 1 0 64 none]=LV.agg [.int i64 a,.isl 1 (bys (Ze (blk c) 0 (List.take (cut.toNat) b)))]:=by simp (disch:=first | omega | (simp;omega))
 have f23:(if 1=1 then if 1=1/\0+64<=List.length (bys (Ze (blk c) 0 (List.take (cut.toNat) b)))/\X1 64 none=true then LV.isl 1 (List.take 64 (List.drop 0 (bys (Ze (blk c) 0 (List.take (cut.toNat) b))))) else LV.any else LV.sl 1 1 0 64 none)=LV.isl 1 (bys (Ze (blk c) 0 (List.take (cut.toNat) b))):=by simp (disch:=first | omega | (simp;omega))
 have f24:LObj.box 116 [.int i64 a,if 1=1 then if 1=1/\0+64<=List.length (bys (Ze (blk c) 0 (List.take (cut.toNat) b)))/\X1 64 none=true then LV.isl 1 (List.take 64 (List.drop 0 (bys (Ze (blk c) 0 (List.take (cut.toNat) b))))) else LV.any else LV.sl 1 1 0 64 none]=LObj.box 116 [.int i64 a,.isl 1 (bys (Ze (blk c) 0 (List.take (cut.toNat) b)))]:=by simp (disch:=first | omega | (simp;omega))
 have f25:Z6 prog C0 (Z3 prog C0 (n+59)) (n+59) 55 [.map 0,.agg [.int i64 a,.sl 1 1 0 64 none]] (St.mk 2 [(0,LObj.map i64 w),(1,LObj.row 5 1 (bys (Ze (blk c) 0 (List.take (cut.toNat) b))))])=some (LV.tup [],St.mk 2 [(0,LObj.map i64 (kput w a (LV.isl 1 (bys (Ze (blk c) 0 (List.take (cut.toNat) b))))))]):=drn (fun h=>ai (f22)<|ai (f23)<|ai (f23)<|ai (congrArg some f24)<|h) (.s (.a) (.s (.a) (.r [.a,.a,.a,.a,.a,.z [.y 1 (vOf f22),.y 5 (vOf f23),.y 14 (vOf f23),.x 2 (vOf f24)] (.a)]))) [] .a (by kernel_rfl)
 have f26:LV.int i64 (IntKind.wrap i64 ((↑k:Int)+1))=LV.int i64 ((↑k:Int)+1):=by simp (disch:=omega)
 have f27:=hr;exact dlp (fun h=>ai (congrArg LV.bool f1)<|ai (f2)<|ai (f3)<|ai (f4)<|ai (congrArg some f5)<|ai (congrArg some f5)<|ai (congrArg some f5)<|ai (f7)<|ai (f6)<|ai (congrArg some f5)<|ai (congrArg some f5)<|ai (f8)<|ai (congrArg some f9)<|ai (congrArg some f9)<|ai (congrArg some f9)<|ai (f10)<|ai (f11)<|ai (f12)<|ai (f13)<|ai (f14)<|ai (f15)<|ai (f16)<|ai (f17)<|ai (f18)<|ai (f19)<|ai (f20)<|ai (congrArg some f21)<|ai (f25)<|ai (f26)<|ai (Eq.refl (Z9 f27))<|ai (f27)<|h) (.i (.s (.a) (.s (.b true (.a)) (.s (.k (.s (.r [.a,.v (vOf f3) (.q),.e (rOf f4)]) (.s (.s (.r [.a,.a,.a,.a,.g false (.a),.g false (.a),.g false (.e (rOf f6)),.g false (.a),.g false (.a),.v (vOf f8) (.a)]) (.a)) (.s (.s (.r [.a,.a,.a,.a,.g true (.a),.g true (.a),.g true (.q),.v (vOf f11) (.a),.a,.a,.a,.v (vOf f12) (.a),.a,.a,.a,.v (vOf f13) (.a)]) (.c (.s (.r [.a,.a,.a,.o (vOf f14),.f (rOf f15)]) (.s (.r [.a,.a,.a,.a,.v (vOf f17) (.q),.x 5 (vOf f21) (.v (vOf f20) (.q))]) (.a))))) (.r [.a,.a,.f (rOf f25)]))))) (.r [.v (vOf f26) (.a)])))) (.h [] (eOf f27) (Zp f27) (rOf f27))) (by kernel_rfl)
theorem cs_torn0(n fu:Nat)(rm:Int)(m:ML)(p:PL)(hp:p.length<=100000)(w:List (Int × LV))(ks:List Int)(cut:Int)(k:Nat)(hk:k<p.length)(a:Int)(b:List Int)(hx:(Zg p)[k]? = some (.agg [.int .i64 a,.isl 1 (bys b)]))(hb:b.length=64)(h2:k<ks.length)(h3:¬ atI ks k=0)(hc:0<=cut)(hc2:cut<64)(hg:X4 w a=none)(r:LX × LEnv × St)(hr:Z2 prog C0 (n+60) 16 1 1 fu (crF ks cut k ((k:Int)+1) p.length) (aS rm m p (kput w a (.isl 1 (bys (Ze (List.replicate 64 0) 0 (b.take cut.toNat))))))=some r):
  Z2 prog C0 (n+60) 16 1 1 (fu+1) (crF ks cut k k p.length) (aS rm m p w)=some r:=by
 have hb2:b≠[]:=by intro h;subst h;simp at hb
 have f1:decide ((↑k:Int)<(p.length:Int))=true:=by simp;omega
 have f2:0<=(↑k:Int)/\(↑k:Int)<(p.length:Int):=by omega
 have f3:=zq7_25 k 2 2;have f4:(Zg p)[k]? = some (LV.agg [.int i64 a,.isl 1 (bys b)]):=hx;have f5:decide ((↑k:Int)<(↑k:Int))=false:=by simp
 have f6:(ints ks)[Int.toNat (↑k:Int)]? = some (LV.int i64 (atI ks k)):=by simp (disch:=omega)
 have f7:0<=(↑k:Int)/\(↑k:Int)<((ints ks).length:Int):=by simp;omega
 have f8:LV.bool (if decide ((↑k:Int)<(↑k:Int))=true then true else decide (atI ks k=0))=LV.bool false:=by simp;omega
 have f9:decide ((↑k:Int)=(↑k:Int))=true:=by simp
 have f10:List.isEmpty (bys b)=false:=by simp;omega
 have f11:=zq7_27 k;have f12:LV.bool (if true=true then decide (0<=cut) else false)=LV.bool true:=by simp;omega
 have f13:LV.bool (if true=true then decide (cut<64) else false)=LV.bool true:=by simp;omega
 have f14:X4 w a=none:=hg;have f15:Z6 prog C0 (Z3 prog C0 (n+59)) (n+59) 54 [.nils] (St.mk 0 [])=some (LV.sl 1 0 0 64 none,St.mk 1 [(0,LObj.row 5 1 (Zr (List.replicate 64 (LV.int IntKind.u8 0)) 0 []))]):=by kernel_rfl
 have f16:(0:Int)<=(0:Int)/\(0:Int)<=Option.getD (some cut) ((bys b).length:Int)/\Option.getD (some cut) ((bys b).length:Int)<=((bys b).length:Int):=by simp;omega
 have f17:=zq7_15 cut b;have f18:=zq7_16;have f19:=zq7_17 cut b;have f20:64<=64:=by omega
 have f21:LV.int i64 (↑(min (List.length (Zo (bys (List.take (cut.toNat) b)))) 64):Int)=LV.int i64 (max cut 0):=by simp (disch:=omega)
 have f22:LObj.row 5 1 (Zr (bys (List.replicate 64 0)) 0 (List.take (min (List.length (Zo (bys (List.take (cut.toNat) b)))) 64) (Zo (bys (List.take (cut.toNat) b)))))=LObj.row 5 1 (bys (Ze (List.replicate 64 0) 0 (List.take (cut.toNat) b))):=by simp (disch:=first | omega | (simp;omega)) [-List.reduceReplicate]
 have f23:LV.agg [.int i64 a,if 1=1 then if 1=1/\0+64<=List.length (bys (Ze (List.replicate 64 0) 0 (List.take (cut.toNat) b)))/\X1 64 none=true then LV.isl 1 (List.take 64 (List.drop 0 (bys (Ze (List.replicate 64 0) 0 (List.take (cut.toNat) b))))) else LV.any else LV.sl 1 1 0 64 none]=LV.agg [.int i64 a,.isl 1 (bys (Ze (List.replicate 64 0) 0 (List.take (cut.toNat) b)))]:=by simp (disch:=first | omega | (simp;omega)) [-List.reduceReplicate]
 have f24:(if 1=1 then if 1=1/\0+64<=List.length (bys (Ze (List.replicate 64 0) 0 (List.take (cut.toNat) b)))/\X1 64 none=true then LV.isl 1 (List.take 64 (List.drop 0 (bys (Ze (List.replicate 64 0) 0 (List.take (cut.toNat) b))))) else LV.any else LV.sl 1 1 0 64 none)=LV.isl 1 (bys (Ze (List.replicate 64 0) 0 (List.take (cut.toNat) b))):=by simp (disch:=first | omega | (simp;omega)) [-List.reduceReplicate]
 have f25:LObj.box 116 [.int i64 a,if 1=1 then if 1=1/\0+64<=List.length (bys (Ze (List.replicate 64 0) 0 (List.take (cut.toNat) b)))/\X1 64 none=true then LV.isl 1 (List.take 64 (List.drop 0 (bys (Ze (List.replicate 64 0) 0 (List.take (cut.toNat) b))))) else LV.any else LV.sl 1 1 0 64 none]=LObj.box 116 [.int i64 a,.isl 1 (bys (Ze (List.replicate 64 0) 0 (List.take (cut.toNat) b)))]:=by simp (disch:=first | omega | (simp;omega)) [-List.reduceReplicate]
 have f26:Z6 prog C0 (Z3 prog C0 (n+59)) (n+59) 55 [.map 0,.agg [.int i64 a,.sl 1 1 0 64 none]] (St.mk 2 [(0,LObj.map i64 w),(1,LObj.row 5 1 (bys (Ze (List.replicate 64 0) 0 (List.take (cut.toNat) b))))])=some (LV.tup [],St.mk 2 [(0,LObj.map i64 (kput w a (LV.isl 1 (bys (Ze (List.replicate 64 0) 0 (List.take (cut.toNat) b))))))]):=drn (fun h=>ai (f23)<|ai (f24)<|ai (f24)<|ai (congrArg some f25)<|h) (.s (.a) (.s (.a) (.r [.a,.a,.a,.a,.a,.z [.y 1 (vOf f23),.y 5 (vOf f24),.y 14 (vOf f24),.x 2 (vOf f25)] (.a)]))) [] .a (by kernel_rfl)
 have f27:LV.int i64 (IntKind.wrap i64 ((↑k:Int)+1))=LV.int i64 ((↑k:Int)+1):=by simp (disch:=omega)
 have f28:=hr;exact dlp (fun h=>ai (congrArg LV.bool f1)<|ai (f2)<|ai (f3)<|ai (f4)<|ai (congrArg some f5)<|ai (congrArg some f5)<|ai (congrArg some f5)<|ai (f7)<|ai (f6)<|ai (congrArg some f5)<|ai (congrArg some f5)<|ai (f8)<|ai (congrArg some f9)<|ai (congrArg some f9)<|ai (congrArg some f9)<|ai (f10)<|ai (f11)<|ai (f12)<|ai (f13)<|ai (f14)<|ai (f15)<|ai (f16)<|ai (f17)<|ai (congrArg some f18)<|ai (f19)<|ai (f20)<|ai (f21)<|ai (congrArg some f22)<|ai (f26)<|ai (f27)<|ai (Eq.refl (Z9 f28))<|ai (f28)<|h) (.i (.s (.a) (.s (.b true (.a)) (.s (.k (.s (.r [.a,.v (vOf f3) (.q),.e (rOf f4)]) (.s (.s (.r [.a,.a,.a,.a,.g false (.a),.g false (.a),.g false (.e (rOf f6)),.g false (.a),.g false (.a),.v (vOf f8) (.a)]) (.a)) (.s (.s (.r [.a,.a,.a,.a,.g true (.a),.g true (.a),.g true (.q),.v (vOf f11) (.a),.a,.a,.a,.v (vOf f12) (.a),.a,.a,.a,.v (vOf f13) (.a)]) (.c (.s (.r [.a,.a,.a,.o (vOf f14),.f (rOf f15)]) (.s (.r [.a,.a,.a,.a,.x 5 (vOf f18) (.v (vOf f17) (.q)),.x 5 (vOf f22) (.v (vOf f21) (.q))]) (.a))))) (.r [.a,.a,.f (rOf f26)]))))) (.r [.v (vOf f27) (.a)])))) (.h [] (eOf f28) (Zp f28) (rOf f28))) (by kernel_rfl)
theorem cs_end(n fu:Nat)(rm:Int)(m:ML)(p:PL)(hp:p.length<=100000)(w:List (Int × LV))(ks:List Int)(cut last:Int):
  Z2 prog C0 (n+60) 16 1 1 (fu+1) (crF ks cut last p.length p.length) (aS rm m p w)=some (.exit 2,crG ks cut last p.length p.length,aS rm m p w):=by
 have f1:decide ((p.length:Int)<(p.length:Int))=false:=by simp
 exact dlp (fun h=>ai (congrArg LV.bool f1)<|h) (.i (.s (.a) (.s (.b false (.a)) .a)) (.a)) (by kernel_rfl)
theorem crash_thru(n:Nat)(rm:Int)(m m':ML)(p:PL)(hp:p.length<=100000)(ks:List Int)(cut last:Int)(hn:0<p.length)(L:Z2 prog C0 (n+60) 16 0 1 (n+60) (crE ks cut (-1) 0 p.length) (crS rm m p)=some (.exit 0,crX ks cut last p.length p.length,crS rm m p))(L2:Z2 prog C0 (n+60) 16 1 1 (n+60) (crF ks cut last 0 p.length) (aS rm m p (Zq m))=some (.exit 2,crG ks cut last p.length p.length,aS rm m p (Zq m'))):
  Z6 prog C0 (Z3 prog C0 (n+60)) (n+60) 16 [.ptr 0 0,.isl 1 (ints ks),.int .i64 cut] ⟨1,[(0,dO rm m p)]⟩=some (.tup [],⟨1,[(0,dO rm m' [])]⟩):=by
 have f1:LV.int i64 ((Zg p).length:Int)=LV.int i64 (p.length:Int):=by simp
 have f2:=zq7_19 rm m p;have f3:=L
 have f4:=zq7_0 m;have f5:=clone_ok (n+54) m;have f6:=L2;have f7:=zq7_14 rm m';exact drn (fun h=>ai (f1)<|ai (congrArg some f2)<|ai (Eq.refl (Z9 f3))<|ai (f3)<|ai (congrArg some f4)<|ai (f5)<|ai (Eq.refl (Z9 f6))<|ai (f6)<|f7) (.s (.a) (.s (.s (.a) (.k (.l (.h [.y 16 (vOf f1),.x 0 (vOf f2)] (eOf f3) (Zp f3) (rOf f3))))) (.s (.r [.a,.a,.a,.x 2 (vOf f4) (.a),.f (rOf f5)]) (.s (.s (.a) (.k (.l (.h [] (eOf f6) (Zp f6) (rOf f6))))) (.a))))) [] .q (by kernel_rfl)
def mset:ML->Int->List Int->ML
 | [],_,_=>[]
 | (k,v)::l,n,x=>if k=n then (n,x)::l else (k,v)::mset l n x
def mins:ML->Int->List Int->ML
 | [],n,x=>[(n,x)]
 | (k,v)::l,n,x=>if n<k then (n,x)::(k,v)::l else (k,v)::mins l n x
def W6(m:ML)(n:Int)(x:List Int):ML:=if (mget m n).isSome then mset m n x else mins m n x
theorem kset_mapE(a:Int)(b:List Int):∀ m:ML,kset (Zq m) a (.isl 1 (bys b))=Zq (mset m a b)
 | []=>rfl
 | (k,v)::m=>by
  have ih:=kset_mapE a b m
  show kset ((k,.isl 1 (bys v))::Zq m) a (.isl 1 (bys b))=_
  simp only [kset,mset]
  split
  ·rfl
  ·rw [ih];rfl
theorem kins_mapE(a:Int)(b:List Int):∀ m:ML,kins (Zq m) a (.isl 1 (bys b))=Zq (mins m a b)
 | []=>rfl
 | (k,v)::m=>by
  have ih:=kins_mapE a b m
  show kins ((k,.isl 1 (bys v))::Zq m) a (.isl 1 (bys b))=_
  simp only [kins,mins]
  split
  ·rfl
  ·rw [ih];rfl
theorem kput_mapE(a:Int)(b:List Int)(m:ML):kput (Zq m) a (.isl 1 (bys b))=Zq (W6 m a b):=by
 unfold kput W6;rw [kget_mapE,Option.isSome_map,kset_mapE,kins_mapE]
 split <;> rfl
theorem kdel_mapE(a:Int):∀ m,kdel (Zq m) a=Zq (mdel m a)
 | []=>rfl
 | (k,v)::m=>by
  have ih:=kdel_mapE a m
  show kdel ((k,.isl 1 (bys v))::Zq m) a=_
  simp only [kdel,mdel]
  split
  ·rfl
  ·rw [ih];rfl
def applyM:PL->ML->ML
 | [],m=>m
 | (a,some b)::q,m=>applyM q (W6 m a b)
 | (a,none)::q,m=>applyM q (mdel m a)
theorem applyP_mapE:∀ (p:PL) (m:ML),applyP p (Zq m)=Zq (applyM p m)
 | [],m=>rfl
 | (a,some b)::q,m=>by simp only [applyP,applyM,kput_mapE,applyP_mapE q]
 | (a,none)::q,m=>by simp only [applyP,applyM,kdel_mapE,applyP_mapE q]
def Yg(ks:List Int):Nat->Int
 | 0=>-1
 | k+1=>if k<ks.length/\¬ atI ks k=0 then k else Yg ks k
def cur(m:ML)(a:Int):List Int:=match mget m a with
 | some c=>blk c
 | none=>List.replicate 64 0
def stepM(ks:List Int)(cut last:Int)(k:Nat)(m:ML)(x:Int × Option (List Int)):ML:=
 if last<k∨atI ks k=0 then m else
 match x.2 with
 | none=>mdel m x.1
 | some b=>if (k:Int)=last/\0<=cut/\cut<64 then W6 m x.1 (Ze (cur m x.1) 0 (b.take cut.toNat)) else W6 m x.1 b
def crashM(ks:List Int)(cut last:Int):PL->Nat->ML->ML
 | [],_,m=>m
 | x::q,k,m=>crashM ks cut last q (k+1) (stepM ks cut last k m x)
theorem lastK_lt(ks:List Int):∀ k,Yg ks k<k/\Yg ks k<ks.length
 | 0=>by simp only [Yg];omega
 | k+1=>by
  have ih:=lastK_lt ks k;simp only [Yg]
  split <;> omega
theorem cr_loop(n:Nat)(rm:Int)(m:ML)(p:PL)(ks:List Int)(cut:Int)(N:Nat)(hN:N<=100000):∀ (j k fu:Nat),k+j=N->j<fu ->
  Z2 prog C0 (n+60) 16 0 1 fu (crE ks cut (Yg ks k) k N) (crS rm m p)=some (.exit 0,crX ks cut (Yg ks N) N N,crS rm m p)
 | 0,k,fu,hk,hf=>by
  obtain ⟨fu,rfl⟩:∃ q,fu=q+1:=⟨fu-1,by omega⟩
  obtain rfl:k=N:=by omega
  exact cr_end n fu rm m p ks cut _ k hN
 | j+1,k,fu,hk,hf=>by
  obtain ⟨fu,rfl⟩:∃ q,fu=q+1:=⟨fu-1,by omega⟩
  have ih:=cr_loop n rm m p ks cut N hN j (k+1) fu (by omega) (by omega)
  by_cases h1:k<ks.length
  ·by_cases h2:atI ks k=0
   ·have e:Yg ks (k+1)=Yg ks k:=by simp [Yg,h2]
    rw [e] at ih;exact cr_miss n fu rm m p ks cut _ k N hN (by omega) h1 h2 _ ih
   ·have e:Yg ks (k+1)=k:=by simp [Yg,h1,h2]
    rw [e] at ih;exact cr_hit n fu rm m p ks cut _ k N hN (by omega) h1 h2 _ ih
  ·have e:Yg ks (k+1)=Yg ks k:=by simp [Yg,h1]
   rw [e] at ih;exact cr_over n fu rm m p ks cut _ k N hN (by omega) (by omega) _ ih
def ok64(p:PL):Prop:=∀ x∈p,∀ b,x.2=some b->b.length=64
theorem ok64.okP{p:PL}(h:ok64 p):okP p:=fun x hx b hb e=>by
 have:=h x hx b hb;rw [e] at this;simp at this
theorem cs_loop(n:Nat)(rm:Int)(m:ML)(p:PL)(hp:p.length<=100000)(h64:ok64 p)(ks:List Int)(cut last:Int)(hl:last<ks.length):∀ (q:PL) (k fu:Nat) (w:ML),p.drop k=q->k<=p.length->q.length<fu ->
  Z2 prog C0 (n+60) 16 1 1 fu (crF ks cut last k p.length) (aS rm m p (Zq w))=some (.exit 2,crG ks cut last p.length p.length,aS rm m p (Zq (crashM ks cut last q k w)))
 | [],k,fu,w,hd,hk,hf=>by
  obtain ⟨fu,rfl⟩:∃ q,fu=q+1:=⟨fu-1,by simp at hf;omega⟩
  have:p.length<=k:=by simpa using hd
  obtain rfl:k=p.length:=by omega
  exact cs_end n fu rm m p hp (Zq w) ks cut last
 | x::q,k,fu,w,hd,hk,hf=>by
  obtain ⟨fu,rfl⟩:∃ q,fu=q+1:=⟨fu-1,by simp at hf;omega⟩
  have hx:p[k]? = some x:=by
   have:=congrArg List.head? hd;simpa [List.head?_drop] using this
  have hlt:k<p.length:=(List.getElem?_eq_some_iff.1 hx).1;have hd2:p.drop (k+1)=q:=by rw [<- List.drop_drop,hd];rfl
  have ih:=fun w'=>cs_loop n rm m p hp h64 ks cut last hl q (k+1) fu w' hd2 (by omega) (by simp at hf;omega)
  have hxl:(Zg p)[k]? = some (pnd x):=by simp only [Zg,List.getElem?_map,hx,Option.map_some]
  obtain ⟨a,o⟩:=x
  have hm:=List.mem_of_getElem? hx
  by_cases h1:last<k
  ·skip
   rw [crashM,show stepM ks cut last k w (a,o)=w by unfold stepM;rw [if_pos (.inl h1)]]
   cases o with
   | none=>exact cs_pastN n fu rm m p hp (Zq w) ks cut last k hlt a hxl h1 _ (ih w)
   | some b=>exact cs_pastS n fu rm m p hp (Zq w) ks cut last k hlt a b hxl h1 _ (ih w)
  have hks:k<ks.length:=by omega
  by_cases h3:atI ks k=0
  ·rw [crashM,show stepM ks cut last k w (a,o)=w by unfold stepM;rw [if_pos (.inr h3)]]
   cases o with
   | none=>exact cs_lostN n fu rm m p hp (Zq w) ks cut last k hlt a hxl (by omega) hks h3 _ (ih w)
   | some b=>exact cs_lostS n fu rm m p hp (Zq w) ks cut last k hlt a b hxl (by omega) hks h3 _ (ih w)
  have hn:¬ (last<k∨atI ks k=0):=by rintro (h | h);exact h1 h;exact h3 h
  rw [crashM];unfold stepM;rw [if_neg hn]
  cases o with
  | none =>
   have I:=ih (mdel w a);rw [<- kdel_mapE] at I
   by_cases he:(k:Int)=last
   ·subst he
    exact cs_free2 n fu rm m p hp (Zq w) ks cut k hlt a hxl hks h3 _ I
   ·exact cs_free1 n fu rm m p hp (Zq w) ks cut last k hlt a hxl (by omega) hks h3 _ I
  | some b =>
   have hb:=h64 _ hm b rfl
   by_cases he:(k:Int)=last
   ·subst he
    by_cases hc:0<=cut/\cut<64
    ·simp only [true_and,hc,and_self,if_true]
     have I:=ih (W6 w a (Ze (cur w a) 0 (b.take cut.toNat)));rw [<- kput_mapE] at I;have hg:=kget_mapE a w;unfold cur at I ⊢
     cases hq:mget w a with
     | none =>
      rw [hq] at I hg;exact cs_torn0 n fu rm m p hp (Zq w) ks cut k hlt a b hxl hb hks h3 hc.1 hc.2 hg _ I
     | some c =>
      rw [hq] at I hg;exact cs_torn n fu rm m p hp (Zq w) ks cut k hlt a b hxl hb hks h3 hc.1 hc.2 c hg _ I
    ·simp only [hc,and_false,if_false]
     have I:=ih (W6 w a b);rw [<- kput_mapE] at I
     by_cases h0:cut<0
     ·exact cs_put2 n fu rm m p hp (Zq w) ks cut k hlt a b hxl hb hks h3 h0 _ I
     ·exact cs_put3 n fu rm m p hp (Zq w) ks cut k hlt a b hxl hb hks h3 (by omega) _ I
   ·simp only [he,false_and,if_false]
    have I:=ih (W6 w a b);rw [<- kput_mapE] at I;exact cs_put1 n fu rm m p hp (Zq w) ks cut last k hlt a b hxl hb (by omega) hks h3 _ I
def V6(m:ML)(p:PL)(ks:List Int)(cut:Int):ML:=crashM ks cut (Yg ks p.length) p 0 m
theorem crash_any(n:Nat)(rm:Int)(m:ML)(p:PL)(hp:p.length<=100000)(hn:p.length<n+60)(h64:ok64 p)(ks:List Int)(cut:Int):
  Z6 prog C0 (Z3 prog C0 (n+60)) (n+60) 16 [.ptr 0 0,.isl 1 (ints ks),.int .i64 cut] ⟨1,[(0,dO rm m p)]⟩=some (.tup [],⟨1,[(0,dO rm (V6 m p ks cut) [])]⟩):=by
 rcases Nat.eq_zero_or_pos p.length with h0 | h0
 ·obtain rfl:=List.length_eq_zero_iff.1 h0
  exact crash_nil n rm m ks cut
 ·exact crash_thru n rm m (V6 m p ks cut) p hp ks cut (Yg ks p.length) h0 (cr_loop n rm m p ks cut p.length hp p.length 0 (n+60) (by omega) hn)
   (cs_loop n rm m p hp h64 ks cut _ (lastK_lt ks p.length).2 p 0 (n+60) m rfl (by omega) hn)
theorem so_bad1(n:Nat)(rm:Int)(m:ML)(p:PL)(hp:p.length<=1000000)(ho:okP p)(t:Int)(v:List Int)(r0:∀ k,Z6 prog C0 (Z3 prog C0 (k+40)) (k+40) 49 [.isl 1 (bys (rd m p 1073741824))] ⟨0,[]⟩=some (.agg [.int .i64 t,.isl 1 (bys v)],⟨0,[]⟩)):
  Z6 prog C0 (Z3 prog C0 (n+80)) (n+80) 9 [.ptr 0 0,.int .i64 1073741824] ⟨1,[(0,dO rm m p)]⟩=some (.tup [.nilp,.ifc 155 (.agg [.str [115,108,111,116],.int .i64 1,flt [98,108,111,99,107] 1073741825 2])],⟨1,[(0,dO rm m p)]⟩):=by
 have B:=fun k=>dread_bad k 1073741825 rm m p (by omega) hp ho
 have A:=fun k=>Xl k rm m p 1073741824 (by omega) (by omega) hp ho
 have f1:=A (n+79);have f2:=r0 (n+39);have f3:=B (n+79);exact drn (fun h=>ai (f1)<|ai (f2)<|ai (f3)<|h) (.s (.a) (.s (.a) (.s (.a) (.s (.s (.a) (.k (.l (.i (.s (.a) (.s (.a) (.s (.k (.s (.a) (.s (.r [.a,.a,.a,.a,.f (rOf f1)]) (.s (.a) (.r [.a,.a,.f (rOf f2)]))))) (.a)))) (.i (.s (.a) (.s (.a) (.s (.k (.s (.a) (.s (.r [.a,.a,.a,.a,.f (rOf f3)]) (.a)))) .a))) (.a)))))) .a)))) [] .a (by kernel_rfl)
abbrev w8(n:Int):Int:=IntKind.u8.wrap n
abbrev sh(n:Int):Int:=n.fdiv 256
def chn(t:Int):List Int:=(((((((((((((((( List.replicate 64 0).set 7 (w8 t)).set 63 (w8 t)).set 6 (w8 (sh t))).set 62 (w8 (sh t))).set 5 (w8 (sh (sh t)))).set 61 (w8 (sh (sh t)))).set 4 (w8 (sh (sh (sh t))))).set 60 (w8 (sh (sh (sh t))))).set 3 (w8 (sh (sh (sh (sh t)))))).set 59 (w8 (sh (sh (sh (sh t)))))).set 2 (w8 (sh (sh (sh (sh (sh t))))))).set 58 (w8 (sh (sh (sh (sh (sh t))))))).set 1 (w8 (sh (sh (sh (sh (sh (sh t)))))))).set 57 (w8 (sh (sh (sh (sh (sh (sh t)))))))).set 0 (w8 (sh (sh (sh (sh (sh (sh (sh t))))))))).set 56 (w8 (sh (sh (sh (sh (sh (sh (sh t))))))))
@[simp] theorem chn_length(t:Int):(chn t).length=64:=by simp only [chn,List.length_set,List.length_replicate]
def encG(t:Int)(v:List Int):List Int:=Ze ((chn t).set 8 (v.length:Int)) 9 v
abbrev ppE(v:List Int)(t i c:Int):LEnv:=[.ptr 0 0,.isl 1 (bys v),.any,.any,.any,.int i64 t,.sl 1 2 0 64 none,.int i64 i,.int i64 c,.any,.any,.any,.any,.any,.any,.any,.any,.any,.any,.any,.any,.any,.any,.any,.any,.any,.any,.any,.any,.any,.any,.any,.any,.any,.any,.any,.any,.any,.any,.any,.any,.any,.any,.any,.any,.any,.any,.any,.any,.any,.any,.any,.any,.any,.any,.any,.any,.any,.any,.any,.any,.any,.any,.any,.any,.any,.any,.any,.any,.any,.any,.any,.any,.any,.any,.any,.any,.any,.any,.any,.any,.any,.any,.any,.any,.any,.any,.any,.any,.any,.any,.any,.any,.any,.any,.any,.any]
abbrev ppX(v:List Int)(t c:Int):LEnv:=[.ptr 0 0,.isl 1 (bys v),.any,.any,.any,.int i64 t,.sl 1 2 0 64 none,.int i64 (-1),.int i64 c,.any,.any,.any,.any,.any,.any,.any,.any,.any,.any,.any,.any,.any,.any,.any,.any,.any,.any,.any,.any,.any,.any,.any,.any,.any,.int i64 (-1),.bool false,.any,.any,.any,.any,.any,.any,.any,.any,.any,.any,.any,.any,.any,.any,.any,.any,.any,.any,.any,.any,.any,.any,.any,.any,.any,.any,.any,.any,.any,.any,.any,.any,.any,.any,.any,.any,.any,.any,.any,.any,.any,.any,.any,.any,.any,.any,.any,.any,.any,.any,.any,.any,.any,.any,.any,.any,.any,.any,.any,.any,.any]
abbrev ppS(at_ tn:Int)(vc:LV)(rm:Int)(m:ML)(p:PL)(X:List Int):St:=⟨3,[(0,sO at_ tn vc false),(1,dO rm m p),(2,.row 5 1 (bys X))]⟩
theorem pp_endO(n fu:Nat)(at_ tn:Int)(w v:List Int)(rm:Int)(m:ML)(p:PL)(t c:Int)(X:List Int):
  Z2 prog C0 (n+60) 13 0 2 (fu+1) (ppE v t (-1) c) (ppS at_ tn (vO w) rm m p X)=some (.exit 1,ppX v t c,ppS at_ tn (vO w) rm m p X):=by
 exact dlp (fun h=>h) (.a) (by kernel_rfl)
theorem zq7_28(a0:List Int)(a1:Int)(a2:Int):LObj.row 5 1 (List.set (bys a0) (a1.toNat) (LV.int IntKind.u8 (IntKind.wrap IntKind.u8 a2)))=LObj.row 5 1 (bys (List.set a0 (a1.toNat) (IntKind.wrap IntKind.u8 a2))):=by simp
theorem zq7_30(a0:List Int)(a1:Int)(a2:Int):LObj.row 5 1 (List.set (bys (List.set a0 (a1.toNat) (IntKind.wrap IntKind.u8 a2))) (Int.toNat (56+a1)) (LV.int IntKind.u8 (IntKind.wrap IntKind.u8 a2)))=LObj.row 5 1 (bys (List.set (List.set a0 (a1.toNat) (IntKind.wrap IntKind.u8 a2)) (Int.toNat (56+a1)) (IntKind.wrap IntKind.u8 a2))):=by simp
theorem pp_stepO(n fu:Nat)(at_ tn:Int)(w v:List Int)(rm:Int)(m:ML)(p:PL)(t i c:Int)(h0:0<=i)(h1:i<=7)(X:List Int)(hX:X.length=64)(r:LX × LEnv × St)(hr:Z2 prog C0 (n+60) 13 0 2 fu (ppE v t (i-1) (sh c)) (ppS at_ tn (vO w) rm m p ((X.set i.toNat (w8 c)).set (56+i).toNat (w8 c)))=some r):
  Z2 prog C0 (n+60) 13 0 2 (fu+1) (ppE v t i c) (ppS at_ tn (vO w) rm m p X)=some r:=by
 have f1:decide (0<=i)=true:=by simp;omega
 have f2:LV.int i64 (IntKind.wrap i64 (56+i))=LV.int i64 (56+i):=by simp (disch:=omega)
 have f3:LV.bool (decide (0<=i))=LV.bool true:=by simp;omega
 have f4:0<=i/\i<64:=by omega
 have f5:=zq7_12 i 1;have f6:(bys X)[i.toNat]? = some (LV.int IntKind.u8 (atI X (i.toNat))):=by simp (disch:=omega)
 have f7:=zq7_28 X i c;have f8:0<=56+i/\56+i<64:=by omega
 have f9:LV.pel 1 2 (0+Int.toNat (56+i)) 0=LV.pel 1 2 (Int.toNat (56+i)) 0:=by simp
 have f10:(bys (List.set X (i.toNat) (IntKind.wrap IntKind.u8 c)))[Int.toNat (56+i)]? = some (LV.int IntKind.u8 (atI (List.set X (i.toNat) (IntKind.wrap IntKind.u8 c)) (Int.toNat (56+i)))):=by simp (disch:=first | omega | (simp;omega))
 have f11:=zq7_30 X i c;have f12:LV.int i64 (IntKind.wrap i64 (i-1))=LV.int i64 (i-1):=by simp (disch:=omega)
 have f13:=hr;exact dlp (fun h=>ai (congrArg LV.bool f1)<|ai (f2)<|ai (f3)<|ai (f4)<|ai (f5)<|ai (f6)<|ai (congrArg some f7)<|ai (f8)<|ai (f9)<|ai (f10)<|ai (congrArg some f11)<|ai (f12)<|ai (Eq.refl (Z9 f13))<|ai (f13)<|h) (.i (.s (.s (.a) (.b true (.a))) (.s (.k (.r [.a,.a,.a,.a,.v (vOf f2) (.a),.a,.a,.z [.y 35 (vOf f3)] (.a),.a,.v (vOf f5) (.q),.x 2 (vOf f7) (.e (rOf f6)),.v (vOf f9) (.q),.x 2 (vOf f11) (.e (rOf f10))])) (.r [.a,.v (vOf f12) (.a)]))) (.h [] (eOf f13) (Zp f13) (rOf f13))) (by kernel_rfl)
theorem pp_loopO(n:Nat)(at_ tn:Int)(w v:List Int)(rm:Int)(m:ML)(p:PL)(t:Int):
  Z2 prog C0 (n+60) 13 0 2 (n+60) (ppE v t 7 t) (ppS at_ tn (vO w) rm m p (List.replicate 64 0))=some (.exit 1,ppX v t (sh (sh (sh (sh (sh (sh (sh (sh t)))))))),ppS at_ tn (vO w) rm m p (chn t)):=by
 iterate 8 refine pp_stepO n _ at_ tn w v rm m p t _ _ (by omega) (by omega) _ (by simp only [List.length_set,List.length_replicate]) _ ?_
 exact pp_endO n _ at_ tn w v rm m p t _ _
theorem zq7_31:LObj.row 5 1 (List.replicate 64 (LV.int IntKind.u8 0))=LObj.row 5 1 (bys (List.replicate 64 0)):=by simp
theorem zq7_32(a0:List Int):LV.int i64 ((bys a0).length:Int)=LV.int i64 (a0.length:Int):=by simp
theorem zq7_33(a0:Int)(a1:Int)(a2:List Int):LObj.box 106 [.ptr 1 0,.int i64 a0,.int i64 a1,.sl 1 3 0 (List.length (bys a2)) none,.bool false]=LObj.box 106 [.ptr 1 0,.int i64 a0,.int i64 a1,.sl 1 3 0 (List.length a2) none,.bool false]:=by simp
theorem zq7_34(a0:Int)(a1:ML)(a2:PL):LObj.box 97 [.int i64 a0,.omap i64 (List.map (·.1) (Zq a1)) (List.map (·.2) (Zq a1)),.own 116 2 (Zg a2)]=LObj.box 97 [.int i64 a0,.omap i64 (Zn a1) (Yl a1),.own 116 2 (Zg a2)]:=by simp
theorem sg_wO(n:Nat)(at_ tn:Int)(w:List Int)(rm:Int)(m:ML)(p:PL)(v:List Int)(hv:v.length<=47)(ht:0<=tn)(ht2:tn<=2000000000000000000)(h0:0<=at_)(h1:at_<=1073741823)(W:∀ (k:Nat) (b:List Int),b.length=64->Z6 prog C0 (Z3 prog C0 (k+20)) (k+20) 25 [.ptr 0 0,.int .i64 (at_+(tn+1) % 2),.sl 1 1 0 64 none] ⟨2,[(0,dO rm m p),(1,.row 5 1 (bys b))]⟩=some (.nili,⟨2,[(0,dO rm m (p++[(at_+(tn+1) % 2,some b)])),(1,.row 5 1 (bys b))]⟩)):Z6 prog C0 (Z3 prog C0 (n+60)) (n+60) 13 [.ptr 0 0,.isl 1 (bys v)] ⟨2,[(0,sO at_ tn (vO w) false),(1,dO rm m p)]⟩ =
  some (.nili,⟨2,[(0,sO at_ (tn+1) (vO v) true),(1,dO rm m (p++[(at_+(tn+1) % 2,some (encG (tn+1) v))]))]⟩):=by
 have L:=pp_loopO n at_ tn w v rm m p (tn+1);have f1:decide (47<((bys v).length:Int))=false:=by simp;omega
 have f2:LV.int i64 (IntKind.wrap i64 (tn+1))=LV.int i64 (tn+1):=by simp (disch:=omega)
 have f3:=zq7_31;have f4:=L
 have f5:LV.int IntKind.u8 (IntKind.wrap IntKind.u8 ((bys v).length:Int))=LV.int IntKind.u8 (v.length:Int):=by simp (disch:=omega)
 have f6:Yj true 1 (Zo (bys v))=true:=by simp
 have f7:64<=64:=by omega
 have f8:LV.int i64 (↑(min (List.length (Zo (bys v))) 55):Int)=LV.int i64 (v.length:Int):=by simp (disch:=omega)
 have f9:LObj.row 5 1 (Zr (List.set (bys (chn (tn+1))) 8 (LV.int IntKind.u8 (v.length:Int))) 9 (List.take (min (List.length (Zo (bys v))) 55) (Zo (bys v))))=LObj.row 5 1 (bys (Ze (List.set (chn (tn+1)) 8 (v.length:Int)) 9 v)):=by simp (disch:=omega)
 have f10:=zq7_32 v;have f11:=zq7_0 m;have f12:=zq7_33 at_ tn w;have f13:=zq7_1 rm p 4 5;have f14:LV.int i64 (IntKind.wrap i64 (at_+Int.tmod (tn+1) 2))=LV.int i64 (at_+(tn+1) % 2):=by simp (disch:=omega)
 have f15:List.length (Zg p)=List.length p:=by simp
 have f16:=zq7_34 rm m p;have f17:=W (n+39) (Ze (List.set (chn (tn+1)) 8 (v.length:Int)) 9 v) (by simp (disch:=omega))
 have f18:0<=((bys v).length:Int)/\((bys v).length:Int)<=((bys v).length:Int)/\1*((bys v).length:Int)<=281474976710656:=by simp;omega
 have f19:=zq7_6 v 6;have f20:=zq7_7 v;have f21:=zq7_8 v;have f22:=zq7_10 v;have f23:=zq7_11 v;have f24:List.length (bys v)=List.length v:=by simp
 exact drn (fun h=>ai (congrArg LV.bool f1)<|ai (f2)<|ai (congrArg some f3)<|ai (Eq.refl (Z9 f4))<|ai (f4)<|ai (f5)<|ai (f6)<|ai (f7)<|ai (f8)<|ai (congrArg some f9)<|ai (f10)<|ai (congrArg some f11)<|ai (congrArg some f12)<|ai (congrArg some f13)<|ai (f14)<|ai (f15)<|ai (congrArg some f16)<|ai (f17)<|ai (f18)<|ai (f19)<|ai (congrArg some f20)<|ai (f6)<|ai (f21)<|ai (f22)<|ai (congrArg some f23)<|ai (f24)<|h) (.s (.a) (.s (.k (.s (.a) (.b false (.a)))) (.s (.r [.a,.a,.a,.a,.v (vOf f2) (.a)]) (.s (.a) (.s (.s (.a) (.k (.l (.h [.x 2 (vOf f3)] (eOf f4) (Zp f4) (rOf f4))))) (.s (.r [.a,.a,.a,.v (vOf f5) (.a)]) (.s (.r [.a,.a,.a,.x 2 (vOf f9) (.v (vOf f8) (.q))]) (.s (.s (.d [.y 53 (vOf f10),.x 4 (vOf f11),.x 0 (vOf f12),.x 1 (vOf f13)] [.a,.a,.a,.a,.a,.a,.a,.a,.a,.a,.v (vOf f14) (.a),.a] [] [.fr .q [.x 1 (vOf f16)] (rOf f17)]) (.a)) (.s (.a) (.s (.r [.a,.a,.a,.x 6 (vOf f20) (.v (vOf f19) (.q))]) (.s (.r [.a,.a,.a,.a,.a,.x 6 (vOf f23) (.v (vOf f22) (.q))]) (.a)))))))))))) [] .q (by kernel_rfl)
theorem sg_fO(n:Nat)(at_ tn:Int)(w:List Int)(rm:Int)(m:ML)(p:PL)(v:List Int)(hv:v.length<=47)(ht:0<=tn)(ht2:tn<=2000000000000000000)(h0:0<=at_)(h1:at_<=1073741823)(W:∀ (k:Nat) (b:List Int),b.length=64->Z6 prog C0 (Z3 prog C0 (k+20)) (k+20) 25 [.ptr 0 0,.int .i64 (at_+(tn+1) % 2),.sl 1 1 0 64 none] ⟨2,[(0,dO rm m p),(1,.row 5 1 (bys b))]⟩=some (flt [98,108,111,99,107] (at_+(tn+1) % 2) 7,⟨2,[(0,dO rm m p),(1,.row 5 1 (bys b))]⟩)):Z6 prog C0 (Z3 prog C0 (n+60)) (n+60) 13 [.ptr 0 0,.isl 1 (bys v)] ⟨2,[(0,sO at_ tn (vO w) false),(1,dO rm m p)]⟩ =
  some (.ifc 155 (.agg [.str [116,117,114,110],.int .i64 (tn+1),flt [98,108,111,99,107] (at_+(tn+1) % 2) 7]),⟨2,[(0,sO at_ tn (vO w) false),(1,dO rm m p)]⟩):=by
 have L:=pp_loopO n at_ tn w v rm m p (tn+1);have f1:decide (47<((bys v).length:Int))=false:=by simp;omega
 have f2:LV.int i64 (IntKind.wrap i64 (tn+1))=LV.int i64 (tn+1):=by simp (disch:=omega)
 have f3:=zq7_31;have f4:=L
 have f5:LV.int IntKind.u8 (IntKind.wrap IntKind.u8 ((bys v).length:Int))=LV.int IntKind.u8 (v.length:Int):=by simp (disch:=omega)
 have f6:Yj true 1 (Zo (bys v))=true:=by simp
 have f7:64<=64:=by omega
 have f8:LV.int i64 (↑(min (List.length (Zo (bys v))) 55):Int)=LV.int i64 (v.length:Int):=by simp (disch:=omega)
 have f9:LObj.row 5 1 (Zr (List.set (bys (chn (tn+1))) 8 (LV.int IntKind.u8 (v.length:Int))) 9 (List.take (min (List.length (Zo (bys v))) 55) (Zo (bys v))))=LObj.row 5 1 (bys (Ze (List.set (chn (tn+1)) 8 (v.length:Int)) 9 v)):=by simp (disch:=omega)
 have f10:=zq7_32 v;have f11:=zq7_0 m;have f12:=zq7_33 at_ tn w;have f13:=zq7_1 rm p 4 5;have f14:LV.int i64 (IntKind.wrap i64 (at_+Int.tmod (tn+1) 2))=LV.int i64 (at_+(tn+1) % 2):=by simp (disch:=omega)
 have f15:List.length (Zg p)=List.length p:=by simp
 have f16:=zq7_34 rm m p;have f17:=W (n+39) (Ze (List.set (chn (tn+1)) 8 (v.length:Int)) 9 v) (by simp (disch:=omega))
 have f18:List.length (bys w)=List.length w:=by simp
 exact drn (fun h=>ai (congrArg LV.bool f1)<|ai (f2)<|ai (congrArg some f3)<|ai (Eq.refl (Z9 f4))<|ai (f4)<|ai (f5)<|ai (f6)<|ai (f7)<|ai (f8)<|ai (congrArg some f9)<|ai (f10)<|ai (congrArg some f11)<|ai (congrArg some f12)<|ai (congrArg some f13)<|ai (f14)<|ai (f15)<|ai (congrArg some f16)<|ai (f17)<|ai (f18)<|h) (.s (.a) (.s (.k (.s (.a) (.b false (.a)))) (.s (.r [.a,.a,.a,.a,.v (vOf f2) (.a)]) (.s (.a) (.s (.s (.a) (.k (.l (.h [.x 2 (vOf f3)] (eOf f4) (Zp f4) (rOf f4))))) (.s (.r [.a,.a,.a,.v (vOf f5) (.a)]) (.s (.r [.a,.a,.a,.x 2 (vOf f9) (.v (vOf f8) (.q))]) (.s (.s (.d [.y 53 (vOf f10),.x 4 (vOf f11),.x 0 (vOf f12),.x 1 (vOf f13)] [.a,.a,.a,.a,.a,.a,.a,.a,.a,.a,.v (vOf f14) (.a),.a] [] [.fr .q [.x 1 (vOf f16)] (rOf f17)]) (.a)) .a)))))))) [] .q (by kernel_rfl)
theorem pp_endI(n fu:Nat)(at_ tn:Int)(w v:List Int)(rm:Int)(m:ML)(p:PL)(t c:Int)(X:List Int):
  Z2 prog C0 (n+60) 13 0 2 (fu+1) (ppE v t (-1) c) (ppS at_ tn (vI w) rm m p X)=some (.exit 1,ppX v t c,ppS at_ tn (vI w) rm m p X):=by
 exact dlp (fun h=>h) (.a) (by kernel_rfl)
theorem pp_stepI(n fu:Nat)(at_ tn:Int)(w v:List Int)(rm:Int)(m:ML)(p:PL)(t i c:Int)(h0:0<=i)(h1:i<=7)(X:List Int)(hX:X.length=64)(r:LX × LEnv × St)(hr:Z2 prog C0 (n+60) 13 0 2 fu (ppE v t (i-1) (sh c)) (ppS at_ tn (vI w) rm m p ((X.set i.toNat (w8 c)).set (56+i).toNat (w8 c)))=some r):
  Z2 prog C0 (n+60) 13 0 2 (fu+1) (ppE v t i c) (ppS at_ tn (vI w) rm m p X)=some r:=by
 have f1:decide (0<=i)=true:=by simp;omega
 have f2:LV.int i64 (IntKind.wrap i64 (56+i))=LV.int i64 (56+i):=by simp (disch:=omega)
 have f3:LV.bool (decide (0<=i))=LV.bool true:=by simp;omega
 have f4:0<=i/\i<64:=by omega
 have f5:=zq7_12 i 1;have f6:(bys X)[i.toNat]? = some (LV.int IntKind.u8 (atI X (i.toNat))):=by simp (disch:=omega)
 have f7:=zq7_28 X i c;have f8:0<=56+i/\56+i<64:=by omega
 have f9:LV.pel 1 2 (0+Int.toNat (56+i)) 0=LV.pel 1 2 (Int.toNat (56+i)) 0:=by simp
 have f10:(bys (List.set X (i.toNat) (IntKind.wrap IntKind.u8 c)))[Int.toNat (56+i)]? = some (LV.int IntKind.u8 (atI (List.set X (i.toNat) (IntKind.wrap IntKind.u8 c)) (Int.toNat (56+i)))):=by simp (disch:=first | omega | (simp;omega))
 have f11:=zq7_30 X i c;have f12:LV.int i64 (IntKind.wrap i64 (i-1))=LV.int i64 (i-1):=by simp (disch:=omega)
 have f13:=hr;exact dlp (fun h=>ai (congrArg LV.bool f1)<|ai (f2)<|ai (f3)<|ai (f4)<|ai (f5)<|ai (f6)<|ai (congrArg some f7)<|ai (f8)<|ai (f9)<|ai (f10)<|ai (congrArg some f11)<|ai (f12)<|ai (Eq.refl (Z9 f13))<|ai (f13)<|h) (.i (.s (.s (.a) (.b true (.a))) (.s (.k (.r [.a,.a,.a,.a,.v (vOf f2) (.a),.a,.a,.z [.y 35 (vOf f3)] (.a),.a,.v (vOf f5) (.q),.x 2 (vOf f7) (.e (rOf f6)),.v (vOf f9) (.q),.x 2 (vOf f11) (.e (rOf f10))])) (.r [.a,.v (vOf f12) (.a)]))) (.h [] (eOf f13) (Zp f13) (rOf f13))) (by kernel_rfl)
theorem pp_loopI(n:Nat)(at_ tn:Int)(w v:List Int)(rm:Int)(m:ML)(p:PL)(t:Int):
  Z2 prog C0 (n+60) 13 0 2 (n+60) (ppE v t 7 t) (ppS at_ tn (vI w) rm m p (List.replicate 64 0))=some (.exit 1,ppX v t (sh (sh (sh (sh (sh (sh (sh (sh t)))))))),ppS at_ tn (vI w) rm m p (chn t)):=by
 iterate 8 refine pp_stepI n _ at_ tn w v rm m p t _ _ (by omega) (by omega) _ (by simp only [List.length_set,List.length_replicate]) _ ?_
 exact pp_endI n _ at_ tn w v rm m p t _ _
theorem sg_wI(n:Nat)(at_ tn:Int)(w:List Int)(rm:Int)(m:ML)(p:PL)(v:List Int)(hv:v.length<=47)(ht:0<=tn)(ht2:tn<=2000000000000000000)(h0:0<=at_)(h1:at_<=1073741823)(W:∀ (k:Nat) (b:List Int),b.length=64->Z6 prog C0 (Z3 prog C0 (k+20)) (k+20) 25 [.ptr 0 0,.int .i64 (at_+(tn+1) % 2),.sl 1 1 0 64 none] ⟨2,[(0,dO rm m p),(1,.row 5 1 (bys b))]⟩=some (.nili,⟨2,[(0,dO rm m (p++[(at_+(tn+1) % 2,some b)])),(1,.row 5 1 (bys b))]⟩)):Z6 prog C0 (Z3 prog C0 (n+60)) (n+60) 13 [.ptr 0 0,.isl 1 (bys v)] ⟨2,[(0,sO at_ tn (vI w) false),(1,dO rm m p)]⟩ =
  some (.nili,⟨2,[(0,sO at_ (tn+1) (vO v) true),(1,dO rm m (p++[(at_+(tn+1) % 2,some (encG (tn+1) v))]))]⟩):=by
 have L:=pp_loopI n at_ tn w v rm m p (tn+1);have f1:decide (47<((bys v).length:Int))=false:=by simp;omega
 have f2:LV.int i64 (IntKind.wrap i64 (tn+1))=LV.int i64 (tn+1):=by simp (disch:=omega)
 have f3:=zq7_31;have f4:=L
 have f5:LV.int IntKind.u8 (IntKind.wrap IntKind.u8 ((bys v).length:Int))=LV.int IntKind.u8 (v.length:Int):=by simp (disch:=omega)
 have f6:Yj true 1 (Zo (bys v))=true:=by simp
 have f7:64<=64:=by omega
 have f8:LV.int i64 (↑(min (List.length (Zo (bys v))) 55):Int)=LV.int i64 (v.length:Int):=by simp (disch:=omega)
 have f9:LObj.row 5 1 (Zr (List.set (bys (chn (tn+1))) 8 (LV.int IntKind.u8 (v.length:Int))) 9 (List.take (min (List.length (Zo (bys v))) 55) (Zo (bys v))))=LObj.row 5 1 (bys (Ze (List.set (chn (tn+1)) 8 (v.length:Int)) 9 v)):=by simp (disch:=omega)
 have f10:=zq7_32 v;have f11:=zq7_0 m;have f12:=zq7_1 rm p 3 4;have f13:LV.int i64 (IntKind.wrap i64 (at_+Int.tmod (tn+1) 2))=LV.int i64 (at_+(tn+1) % 2):=by simp (disch:=omega)
 have f14:List.length (Zg p)=List.length p:=by simp
 have f15:=zq7_34 rm m p;have f16:=W (n+39) (Ze (List.set (chn (tn+1)) 8 (v.length:Int)) 9 v) (by simp (disch:=omega))
 have f17:0<=((bys v).length:Int)/\((bys v).length:Int)<=((bys v).length:Int)/\1*((bys v).length:Int)<=281474976710656:=by simp;omega
 have f18:=zq7_6 v 5;have f19:=zq7_7 v;have f20:=zq7_8 v;have f21:=zq7_10 v;have f22:=zq7_11 v;have f23:List.length (bys v)=List.length v:=by simp
 exact drn (fun h=>ai (congrArg LV.bool f1)<|ai (f2)<|ai (congrArg some f3)<|ai (Eq.refl (Z9 f4))<|ai (f4)<|ai (f5)<|ai (f6)<|ai (f7)<|ai (f8)<|ai (congrArg some f9)<|ai (f10)<|ai (congrArg some f11)<|ai (congrArg some f12)<|ai (f13)<|ai (f14)<|ai (congrArg some f15)<|ai (f16)<|ai (f17)<|ai (f18)<|ai (congrArg some f19)<|ai (f6)<|ai (f20)<|ai (f21)<|ai (congrArg some f22)<|ai (f23)<|h) (.s (.a) (.s (.k (.s (.a) (.b false (.a)))) (.s (.r [.a,.a,.a,.a,.v (vOf f2) (.a)]) (.s (.a) (.s (.s (.a) (.k (.l (.h [.x 2 (vOf f3)] (eOf f4) (Zp f4) (rOf f4))))) (.s (.r [.a,.a,.a,.v (vOf f5) (.a)]) (.s (.r [.a,.a,.a,.x 2 (vOf f9) (.v (vOf f8) (.q))]) (.s (.s (.d [.y 53 (vOf f10),.x 3 (vOf f11),.x 1 (vOf f12)] [.a,.a,.a,.a,.a,.a,.a,.a,.a,.a,.v (vOf f13) (.a),.a] [] [.fr .q [.x 1 (vOf f15)] (rOf f16)]) (.a)) (.s (.a) (.s (.r [.a,.a,.a,.x 5 (vOf f19) (.v (vOf f18) (.q))]) (.s (.r [.a,.a,.a,.a,.a,.x 5 (vOf f22) (.v (vOf f21) (.q))]) (.a)))))))))))) [] .q (by kernel_rfl)
theorem sg_fI(n:Nat)(at_ tn:Int)(w:List Int)(rm:Int)(m:ML)(p:PL)(v:List Int)(hv:v.length<=47)(ht:0<=tn)(ht2:tn<=2000000000000000000)(h0:0<=at_)(h1:at_<=1073741823)(W:∀ (k:Nat) (b:List Int),b.length=64->Z6 prog C0 (Z3 prog C0 (k+20)) (k+20) 25 [.ptr 0 0,.int .i64 (at_+(tn+1) % 2),.sl 1 1 0 64 none] ⟨2,[(0,dO rm m p),(1,.row 5 1 (bys b))]⟩=some (flt [98,108,111,99,107] (at_+(tn+1) % 2) 7,⟨2,[(0,dO rm m p),(1,.row 5 1 (bys b))]⟩)):Z6 prog C0 (Z3 prog C0 (n+60)) (n+60) 13 [.ptr 0 0,.isl 1 (bys v)] ⟨2,[(0,sO at_ tn (vI w) false),(1,dO rm m p)]⟩ =
  some (.ifc 155 (.agg [.str [116,117,114,110],.int .i64 (tn+1),flt [98,108,111,99,107] (at_+(tn+1) % 2) 7]),⟨2,[(0,sO at_ tn (vI w) false),(1,dO rm m p)]⟩):=by
 have L:=pp_loopI n at_ tn w v rm m p (tn+1);have f1:decide (47<((bys v).length:Int))=false:=by simp;omega
 have f2:LV.int i64 (IntKind.wrap i64 (tn+1))=LV.int i64 (tn+1):=by simp (disch:=omega)
 have f3:=zq7_31;have f4:=L
 have f5:LV.int IntKind.u8 (IntKind.wrap IntKind.u8 ((bys v).length:Int))=LV.int IntKind.u8 (v.length:Int):=by simp (disch:=omega)
 have f6:Yj true 1 (Zo (bys v))=true:=by simp
 have f7:64<=64:=by omega
 have f8:LV.int i64 (↑(min (List.length (Zo (bys v))) 55):Int)=LV.int i64 (v.length:Int):=by simp (disch:=omega)
 have f9:LObj.row 5 1 (Zr (List.set (bys (chn (tn+1))) 8 (LV.int IntKind.u8 (v.length:Int))) 9 (List.take (min (List.length (Zo (bys v))) 55) (Zo (bys v))))=LObj.row 5 1 (bys (Ze (List.set (chn (tn+1)) 8 (v.length:Int)) 9 v)):=by simp (disch:=omega)
 have f10:=zq7_32 v;have f11:=zq7_0 m;have f12:=zq7_1 rm p 3 4;have f13:LV.int i64 (IntKind.wrap i64 (at_+Int.tmod (tn+1) 2))=LV.int i64 (at_+(tn+1) % 2):=by simp (disch:=omega)
 have f14:List.length (Zg p)=List.length p:=by simp
 have f15:=zq7_34 rm m p;have f16:=W (n+39) (Ze (List.set (chn (tn+1)) 8 (v.length:Int)) 9 v) (by simp (disch:=omega))
 exact drn (fun h=>ai (congrArg LV.bool f1)<|ai (f2)<|ai (congrArg some f3)<|ai (Eq.refl (Z9 f4))<|ai (f4)<|ai (f5)<|ai (f6)<|ai (f7)<|ai (f8)<|ai (congrArg some f9)<|ai (f10)<|ai (congrArg some f11)<|ai (congrArg some f12)<|ai (f13)<|ai (f14)<|ai (congrArg some f15)<|ai (f16)<|h) (.s (.a) (.s (.k (.s (.a) (.b false (.a)))) (.s (.r [.a,.a,.a,.a,.v (vOf f2) (.a)]) (.s (.a) (.s (.s (.a) (.k (.l (.h [.x 2 (vOf f3)] (eOf f4) (Zp f4) (rOf f4))))) (.s (.r [.a,.a,.a,.v (vOf f5) (.a)]) (.s (.r [.a,.a,.a,.x 2 (vOf f9) (.v (vOf f8) (.q))]) (.s (.s (.d [.y 53 (vOf f10),.x 3 (vOf f11),.x 1 (vOf f12)] [.a,.a,.a,.a,.a,.a,.a,.a,.a,.a,.v (vOf f13) (.a),.a] [] [.fr .q [.x 1 (vOf f15)] (rOf f16)]) (.a)) .a)))))))) [] .a (by kernel_rfl)
theorem writeS_full(n:Nat)(at_:Int)(b:List Int)(rm:Int)(m:ML)(p:PL)(h0:0<=at_)(h1:at_<=1073741824)(hb:b.length=64)(hp:p.length<=1000000)(ho:okP p)(hk:X4 (Zt m p) at_=none)(hr:rm<=(Zt m p).length):
  Z6 prog C0 (Z3 prog C0 (n+20)) (n+20) 25 [.ptr 0 0,.int .i64 at_,.sl 1 1 0 64 none] ⟨2,[(0,dO rm m p),(1,.row 5 1 (bys b))]⟩=some (flt [98,108,111,99,107] at_ 7,⟨2,[(0,dO rm m p),(1,.row 5 1 (bys b))]⟩):=by
 have f1:=right_ok (n+10) at_ h0 h1;have f2:=needs_ok (n+19) rm m p hp ho;have f3:=zq7_0 m;have f4:=zq7_1 rm p 3 4;have f5:X4 (Zt m p) at_=none:=hk;have f6:LV.bool (if true=true then decide (rm<=((Zt m p).length:Int)) else false)=LV.bool true:=by simp;omega
 have f7:List.length (Zg p)=List.length p:=by simp
 have f8:(LV.ifc 155 (LV.agg [LV.str [98,108,111,99,107],.int i64 at_,LV.ifc 40 (LV.int i64 7)]),St.mk 2 [(0,LObj.box 97 [.int i64 rm,.omap i64 (List.map (·.1) (Zq m)) (List.map (·.2) (Zq m)),.own 116 2 (Zg p)]),(1,LObj.row 5 1 (bys b))])=(flt [98,108,111,99,107] at_ 7,St.mk 2 [(0,dO rm m p),(1,LObj.row 5 1 (bys b))]):=by simp
 exact drn (fun h=>ai (f1)<|ai (f2)<|ai (congrArg some f3)<|ai (congrArg some f4)<|ai (f5)<|ai (f6)<|ai (f7)<|f8) (.s (.a) (.s (.s (.r [.a,.f (rOf f1)]) (.a)) (.s (.a) (.s (.r [.a,.f (rOf f2)]) (.s (.s (.d [.x 3 (vOf f3),.x 0 (vOf f4)] [.a,.a,.o (vOf f5),.a,.a,.a,.a,.a,.a,.a,.a] [] [.a,.v (vOf f6) (.a)]) (.a)) .a))))) [] .q (by kernel_rfl)
theorem of_wrap(n:Nat)(op op2:List UInt8)(a a2 c:Int):Z6 prog C0 (Z3 prog C0 (n+20)) (n+20) 11 [.ifc 155 (.agg [.str op,.int .i64 a,flt op2 a2 c])] ⟨0,[]⟩=some (.int .i64 c,⟨0,[]⟩):=by
 exact drn (fun h=>h) (.a) [] .a (by kernel_rfl)
abbrev smE(a b:List Int)(i:Int):LEnv:=[.isl 1 (bys a),.isl 1 (bys b),.any,.any,.any,.int i64 i,.any,.any,.any,.any,.any,.any,.any,.any,.any,.any,.any,.any,.any,.any,.any,.any,.any,.any,.any,.any]
abbrev smX(a b:List Int)(i:Int):LEnv:=[.isl 1 (bys a),.isl 1 (bys b),.any,.any,.any,.int i64 i,.any,.any,.any,.any,.any,.int i64 i,.isl 1 (bys a),.int i64 a.length,.bool (decide (i<a.length)),.any,.any,.any,.any,.any,.any,.any,.any,.any,.any,.any]
abbrev smF(a b:List Int)(k:Nat):LEnv:=[.isl 1 (bys a),.isl 1 (bys b),.any,.any,.bool false,.int i64 k,.any,.any,.any,.any,.any,.int i64 k,.isl 1 (bys a),.int i64 ((bys a).length:Int),.bool (decide ((k:Int)<((bys a).length:Int))),.any,.any,.isl 1 (bys a),.int i64 k,(LV.int IntKind.u8 (atI a k)).irp,.int IntKind.u8 (atI a k),.isl 1 (bys b),.int i64 k,(LV.int IntKind.u8 (atI b k)).irp,.int IntKind.u8 (atI b k),.bool (!decide (atI a k=atI b k))]
theorem same_end(n fu:Nat)(a b:List Int)(hb:a.length<=100000)(i:Int)(hi:(a.length:Int)<=i):Z2 prog C0 (n+20) 19 0 0 (fu+1) (smE a b i) ⟨0,[]⟩=some (.exit 0,smX a b i,⟨0,[]⟩):=by
 have f1:decide (i<((bys a).length:Int))=false:=by simp;omega
 have f2:(LX.exit 0,[.isl 1 (bys a),.isl 1 (bys b),.any,.any,.any,.int i64 i,.any,.any,.any,.any,.any,.int i64 i,.isl 1 (bys a),.int i64 ((bys a).length:Int),.bool (decide (i<((bys a).length:Int))),.any,.any,.any,.any,.any,.any,.any,.any,.any,.any,.any],St.mk 0 [])=(LX.exit 0,smX a b i,St.mk 0 []):=by simp
 exact dlp (fun h=>ai (congrArg LV.bool f1)<|f2) (.i (.s (.s (.a) (.b false (.a))) .a) (.a)) (by kernel_rfl)
theorem same_step(n fu:Nat)(a b:List Int)(hb:a.length<=100000)(hl:b.length=a.length)(k:Nat)(hi:k<a.length)(he:atI a k=atI b k)(r:LX × LEnv × St)(hr:Z2 prog C0 (n+20) 19 0 0 fu (smE a b ((k:Int)+1)) ⟨0,[]⟩=some r):
  Z2 prog C0 (n+20) 19 0 0 (fu+1) (smE a b k) ⟨0,[]⟩=some r:=by
 have f1:decide ((↑k:Int)<((bys a).length:Int))=true:=by simp;omega
 have f2:(bys a)[Int.toNat (↑k:Int)]? = some (LV.int IntKind.u8 (atI b k)):=by (simp (disch:=first | omega | (simp;omega));omega)
 have f3:0<=(↑k:Int)/\(↑k:Int)<((bys a).length:Int):=by simp;omega
 have f4:(bys b)[Int.toNat (↑k:Int)]? = some (LV.int IntKind.u8 (atI b k)):=by simp (disch:=omega)
 have f5:0<=(↑k:Int)/\(↑k:Int)<((bys b).length:Int):=by simp;omega
 have f6:(!decide (atI b k=atI b k))=false:=by simp
 have f7:LV.int i64 (IntKind.wrap i64 ((↑k:Int)+1))=LV.int i64 ((↑k:Int)+1):=by simp (disch:=omega)
 have f8:=hr;exact dlp (fun h=>ai (congrArg LV.bool f1)<|ai (f3)<|ai (f2)<|ai (f5)<|ai (f4)<|ai (congrArg LV.bool f6)<|ai (f7)<|ai (Eq.refl (Z9 f8))<|ai (f8)<|h) (.i (.s (.s (.a) (.b true (.a))) (.s (.k (.s (.d [] [.a,.a,.e (rOf f2),.a,.a,.a,.e (rOf f4),.a] [] []) (.b false (.a)))) (.r [.a,.v (vOf f7) (.a)]))) (.h [] (eOf f8) (Zp f8) (rOf f8))) (by kernel_rfl)
theorem same_stop(n fu:Nat)(a b:List Int)(hb:a.length<=100000)(hl:b.length=a.length)(k:Nat)(hi:k<a.length)(he:¬ atI a k=atI b k):
  Z2 prog C0 (n+20) 19 0 0 (fu+1) (smE a b k) ⟨0,[]⟩=some (.ret,smF a b k,⟨0,[]⟩):=by
 have f1:decide ((↑k:Int)<((bys a).length:Int))=true:=by simp;omega
 have f2:(bys a)[Int.toNat (↑k:Int)]? = some (LV.int IntKind.u8 (atI a k)):=by simp (disch:=omega)
 have f3:0<=(↑k:Int)/\(↑k:Int)<((bys a).length:Int):=by simp;omega
 have f4:(bys b)[Int.toNat (↑k:Int)]? = some (LV.int IntKind.u8 (atI b k)):=by simp (disch:=omega)
 have f5:0<=(↑k:Int)/\(↑k:Int)<((bys b).length:Int):=by simp;omega
 have f6:(!decide (atI a k=atI b k))=true:=by simp;omega
 exact dlp (fun h=>ai (congrArg LV.bool f1)<|ai (f3)<|ai (f2)<|ai (f5)<|ai (f4)<|ai (congrArg LV.bool f6)<|h) (.i (.s (.s (.a) (.b true (.a))) (.s (.k (.s (.d [] [.a,.a,.e (rOf f2),.a,.a,.a,.e (rOf f4),.a] [] []) (.b true (.a)))) .a)) (.a)) (by kernel_rfl)
theorem same_thru(n:Nat)(a b:List Int)(hb:a.length<=100000)(hl:b.length=a.length)(L:Z2 prog C0 (n+20) 19 0 0 (n+20) (smE a b 0) ⟨0,[]⟩=some (.exit 0,smX a b a.length,⟨0,[]⟩)):
  Z6 prog C0 (Z3 prog C0 (n+20)) (n+20) 19 [.isl 1 (bys a),.isl 1 (bys b)] ⟨0,[]⟩=some (.bool true,⟨0,[]⟩):=by
 have f1:(!decide (((bys a).length:Int)=((bys b).length:Int)))=false:=by simp;omega
 have f2:=L
 exact drn (fun h=>ai (congrArg LV.bool f1)<|ai (Eq.refl (Z9 f2))<|ai (f2)<|h) (.s (.a) (.s (.s (.a) (.b false (.a))) (.s (.s (.a) (.k (.l (.h [] (eOf f2) (Zp f2) (rOf f2))))) (.a)))) [] .a (by kernel_rfl)
theorem same_not(n k:Nat)(a b:List Int)(hb:a.length<=100000)(hl:b.length=a.length)(L:Z2 prog C0 (n+20) 19 0 0 (n+20) (smE a b 0) ⟨0,[]⟩=some (.ret,smF a b k,⟨0,[]⟩)):
  Z6 prog C0 (Z3 prog C0 (n+20)) (n+20) 19 [.isl 1 (bys a),.isl 1 (bys b)] ⟨0,[]⟩=some (.bool false,⟨0,[]⟩):=by
 have f1:(!decide (((bys a).length:Int)=((bys b).length:Int)))=false:=by simp;omega
 have f2:=L
 exact drn (fun h=>ai (congrArg LV.bool f1)<|ai (Eq.refl (Z9 f2))<|ai (f2)<|h) (.s (.a) (.s (.s (.a) (.b false (.a))) (.s (.s (.a) (.k (.l (.h [] (eOf f2) (Zp f2) (rOf f2))))) .a))) [] .a (by kernel_rfl)
theorem same_len(n:Nat)(a b:List Int)(hb:a.length<=100000)(hb2:b.length<=100000)(hl:¬ a.length=b.length):
  Z6 prog C0 (Z3 prog C0 (n+20)) (n+20) 19 [.isl 1 (bys a),.isl 1 (bys b)] ⟨0,[]⟩=some (.bool false,⟨0,[]⟩):=by
 have f1:(!decide (((bys a).length:Int)=((bys b).length:Int)))=true:=by simp;omega
 exact drn (fun h=>ai (congrArg LV.bool f1)<|h) (.s (.a) (.s (.s (.a) (.b true (.a))) .a)) [] .a (by kernel_rfl)
theorem ext_atI:∀ {a b:List Int},b.length=a.length->(∀ k,k<a.length->atI a k=atI b k)->a=b
 | [],[],_,_=>rfl
 | [],_::_,h,_=>by simp at h
 | _::_,[],h,_=>by simp at h
 | x::a,y::b,h,hk=>by
  have h0:=hk 0 (by simp)
  have:a=b:=ext_atI (by simpa using h) (fun k hk2=>by simpa [atI] using hk (k+1) (by simpa using hk2))
  simp [atI] at h0;rw [h0,this]
theorem same_loop(n:Nat)(a b:List Int)(hb:a.length<=100000)(hl:b.length=a.length):∀ (j k fu:Nat),k+j=a.length->j<fu ->
  ((∀ i,k<=i->i<a.length->atI a i=atI b i)->Z2 prog C0 (n+20) 19 0 0 fu (smE a b k) ⟨0,[]⟩=some (.exit 0,smX a b a.length,⟨0,[]⟩)) /\
  ((¬ ∀ i,k<=i->i<a.length->atI a i=atI b i)->∃ q,Z2 prog C0 (n+20) 19 0 0 fu (smE a b k) ⟨0,[]⟩=some (.ret,smF a b q,⟨0,[]⟩))
 | 0,k,fu,hk,hf=>by
  obtain ⟨fu,rfl⟩:∃ q,fu=q+1:=⟨fu-1,by omega⟩
  obtain rfl:k=a.length:=by omega
  exact ⟨fun _=>same_end n fu a b hb _ (by omega),fun h=>absurd (fun i h1 h2=>by omega) h⟩
 | j+1,k,fu,hk,hf=>by
  obtain ⟨fu,rfl⟩:∃ q,fu=q+1:=⟨fu-1,by omega⟩
  obtain ⟨ih1,ih2⟩:=same_loop n a b hb hl j (k+1) fu (by omega) (by omega)
  by_cases he:atI a k=atI b k
  ·refine ⟨fun h=>same_step n fu a b hb hl k (by omega) he _ (ih1 fun i h1 h2=>h i (by omega) h2),fun h=>?_⟩
   obtain ⟨q,hq⟩:=ih2 (fun h'=>h fun i h1 h2=>by
    rcases Nat.eq_or_lt_of_le h1 with rfl | h3
    ·exact he
    ·exact h' i h3 h2)
   exact ⟨q,same_step n fu a b hb hl k (by omega) he _ hq⟩
  ·exact ⟨fun h=>absurd (h k (Nat.le_refl _) (by omega)) he,fun _=>⟨k,same_stop n fu a b hb hl k (by omega) he⟩⟩
theorem same_any(n:Nat)(a b:List Int)(ha:a.length<=100000)(hb:b.length<=100000)(hn:a.length<n+20):
  Z6 prog C0 (Z3 prog C0 (n+20)) (n+20) 19 [.isl 1 (bys a),.isl 1 (bys b)] ⟨0,[]⟩=some (.bool (decide (a=b)),⟨0,[]⟩):=by
 by_cases hl:a.length=b.length
 ·obtain ⟨h1,h2⟩:=same_loop n a b ha hl.symm a.length 0 (n+20) (by omega) (by omega)
  by_cases he:a=b
  ·have:=same_thru n a b ha hl.symm (h1 (by subst he;intros;rfl))
   rw [this];simp [he]
  ·obtain ⟨q,hq⟩:=h2 (fun h=>he (ext_atI hl.symm fun k hk=>h k (Nat.zero_le _) hk))
   have:=same_not n q a b ha hl.symm hq;rw [this];simp [he]
 ·have:=same_len n a b ha hb hl
  rw [this];have:¬ a=b:=fun h=>hl (by rw [h])
  simp [this]
def padP(b:List Int)(k:Nat):List Int:=b.take k++List.replicate (64-k) 0
@[simp] theorem padP_length(b:List Int)(k:Nat)(h:k<=b.length)(h2:k<=64):(padP b k).length=64:=by simp [padP];omega
theorem padP_set(b:List Int)(k:Nat)(h:k<b.length)(h2:k<64):(padP b k).set k (atI b k)=padP b (k+1):=by
 unfold padP;rw [List.set_append_right _ _ (by simp;omega)]
 have e:64-k=(64-(k+1))+1:=by omega
 have e2:k-(List.take k b).length=0:=by simp;omega
 rw [e2,e,List.replicate_succ,List.set_cons_zero,List.take_succ_eq_append_getElem h,List.append_assoc];simp [atI,h]
theorem padP_zero(b:List Int):padP b 0=List.replicate 64 0:=by simp [padP]
theorem padP_full(b:List Int)(h:b.length<=64):padP b b.length=blk b:=by
 rw [<- blk_padS];simp only [padP,List.take_length];rw [List.take_append,List.take_of_length_le h,List.take_replicate,Nat.min_eq_left (by omega)]
abbrev pdE(b:List Int)(i:Int):LEnv:=[.isl 1 (bys b),.any,.any,.sl 1 0 0 64 none,.int i64 i,.any,.any,.any,.any,.any,.any,.any,.any,.any,.any,.any,.any,.any,.any,.any,.any,.any,.any,.any]
abbrev pdX(b:List Int)(i:Int):LEnv:=[.isl 1 (bys b),.any,.any,.sl 1 0 0 64 none,.int i64 i,.any,.int i64 i,.isl 1 (bys b),.int i64 ((bys b).length:Int),.bool (decide (i<((bys b).length:Int))),.bool (decide (i<((bys b).length:Int))),.any,.any,.bool false,.any,.any,.any,.any,.any,.any,.any,.any,.any,.any]
abbrev pdS(b:List Int)(k:Nat):St:=⟨1,[(0,.row 5 1 (bys (padP b k)))]⟩
theorem pad_step(n fu:Nat)(b:List Int)(hb:b.length<=64)(k:Nat)(hk:k<b.length)(r:LX × LEnv × St)(hr:Z2 prog C0 (n+20) 58 0 0 fu (pdE b ((k:Int)+1)) (pdS b (k+1))=some r):
  Z2 prog C0 (n+20) 58 0 0 (fu+1) (pdE b k) (pdS b k)=some r:=by
 have e:=padP_set b k hk (by omega)
 have e2:=padP_length b k (by omega) (by omega)
 have f1:decide ((↑k:Int)<((bys b).length:Int))=true:=by simp;omega
 have f2:LV.bool (if decide ((↑k:Int)<((bys b).length:Int))=true then decide ((↑k:Int)<64) else false)=LV.bool true:=by simp;omega
 have f3:(bys b)[Int.toNat (↑k:Int)]? = some (LV.int IntKind.u8 (atI b k)):=by simp (disch:=omega)
 have f4:0<=(↑k:Int)/\(↑k:Int)<((bys b).length:Int):=by simp;omega
 have f5:0<=(↑k:Int)/\(↑k:Int)<64:=by omega
 have f6:=zq7_25 k 1 0;have f7:(bys (padP b k))[k]? = some (LV.int IntKind.u8 (atI (padP b k) k)):=by simp (disch:=omega)
 have f8:LObj.row 5 1 (List.set (bys (padP b k)) k (LV.int IntKind.u8 (atI b k)))=LObj.row 5 1 (bys (padP b (k+1))):=by simp (disch:=omega) [-List.reduceReplicate,hb,hk,hr,e,e2]
 have f9:LV.int i64 (IntKind.wrap i64 ((↑k:Int)+1))=LV.int i64 ((↑k:Int)+1):=by simp (disch:=omega)
 have f10:=hr;exact dlp (fun h=>ai (congrArg some f1)<|ai (congrArg some f1)<|ai (f2)<|ai (f4)<|ai (f3)<|ai (f5)<|ai (f6)<|ai (f7)<|ai (congrArg some f8)<|ai (f9)<|ai (Eq.refl (Z9 f10))<|ai (f10)<|h) (.i (.s (.s (.r [.a,.a,.a,.a,.a,.g true (.a),.g true (.a),.v (vOf f2) (.a)]) (.a)) (.s (.k (.r [.a,.a,.a,.a,.e (rOf f3),.a,.v (vOf f6) (.q),.x 0 (vOf f8) (.e (rOf f7))])) (.r [.a,.v (vOf f9) (.a)]))) (.h [] (eOf f10) (Zp f10) (rOf f10))) (by kernel_rfl)
theorem pad_end(n fu:Nat)(b:List Int)(hb:b.length<=64):
  Z2 prog C0 (n+20) 58 0 0 (fu+1) (pdE b b.length) (pdS b b.length)=some (.exit 0,pdX b b.length,pdS b b.length):=by
 have f1:decide ((b.length:Int)<((bys b).length:Int))=false:=by simp
 have f2:Xf (decide ((b.length:Int)<((bys b).length:Int))) LV.any (LV.bool false)=some (LV.bool false):=by simp
 exact dlp (fun h=>ai (congrArg some f1)<|ai (congrArg some f1)<|ai (Y3 (st:=(St.mk 1 [(0,LObj.row 5 1 (bys (padP b (List.length b))))])) f2)<|h) (.i (.s (.s (.r [.a,.a,.a,.a,.a,.g false (.a),.g false (.a),.t (rOf (Y3 (st:=(St.mk 1 [(0,LObj.row 5 1 (bys (padP b (List.length b))))])) f2))]) (.a)) .a) (.a)) (by kernel_rfl)
theorem pad_loop(n:Nat)(b:List Int)(hb:b.length<=64):∀ (j k fu:Nat),k+j=b.length->j<fu->Z2 prog C0 (n+20) 58 0 0 fu (pdE b k) (pdS b k)=some (.exit 0,pdX b b.length,pdS b b.length)
 | 0,k,fu,hk,hf=>by
  obtain ⟨fu,rfl⟩:∃ q,fu=q+1:=⟨fu-1,by omega⟩
  obtain rfl:k=b.length:=by omega
  exact pad_end n fu b hb
 | j+1,k,fu,hk,hf=>by
  obtain ⟨fu,rfl⟩:∃ q,fu=q+1:=⟨fu-1,by omega⟩
  exact pad_step n fu b hb k (by omega) _ (pad_loop n b hb j (k+1) fu (by omega) (by omega))
theorem pad_ok(n:Nat)(b:List Int)(hb:b.length<=64)(hn:64<n+20):Z6 prog C0 (Z3 prog C0 (n+20)) (n+20) 58 [.isl 1 (bys b)] ⟨0,[]⟩=some (.isl 1 (bys (blk b)),⟨0,[]⟩):=by
 have L:=pad_loop n b hb b.length 0 (n+20) (by omega) (by omega)
 have e:=padP_full b hb;have e2:=padP_zero b;unfold pdS at L;rw [e,e2] at L;have f1:=zq7_31;have f2:=L
 have f3:=zq7_18 b 0;exact drn (fun h=>ai (congrArg some f1)<|ai (Eq.refl (Z9 f2))<|ai (f2)<|ai (f3)<|h) (.s (.a) (.s (.a) (.s (.s (.a) (.k (.l (.h [.x 0 (vOf f1)] (eOf f2) (Zp f2) (rOf f2))))) (.a)))) [.y 0 (vOf f3)] .a (by kernel_rfl)
end Go.Mac
namespace Go.Mac.Nd
open Go Go.Eng Go.Proofs
set_option maxRecDepth 100000
theorem sub_len{α:Type}[BEq α][LawfulBEq α]:∀ {l k:List α},l.Nodup->(∀ x∈l,x∈k)->l.length<=k.length
 | [],_,_,_=>Nat.zero_le _
 | x::l,k,hn,hs=>by
  obtain ⟨h1,h2⟩:=List.nodup_cons.1 hn;have hx:=hs x (by simp)
  have:=sub_len (l:=l) (k:=k.erase x) h2 (fun y hy=>(List.mem_erase_of_ne (by rintro rfl;exact h1 hy)).2 (hs y (by simp [hy])))
  rw [List.length_erase_of_mem hx] at this;have:0<k.length:=List.length_pos_of_mem hx;simp;omega
def Zw(l:List (Int × LV)):List Int:=l.map (·.1)
theorem kget_some_iff(n:Int):∀ l:List (Int × LV),(X4 l n).isSome=true↔n∈Zw l
 | []=>by simp [X4,Zw]
 | (k,v)::l=>by
  have ih:=kget_some_iff n l;simp only [X4,Zw,List.map_cons,List.mem_cons]
  split
  ·rename_i h;simp [h]
  ·rename_i h
   rw [ih]
   constructor
   ·exact fun q=>.inr q
   ·rintro (q | q)
    ·exact absurd q.symm h
    ·exact q
theorem kset_keys(n:Int)(x:LV):∀ l:List (Int × LV),Zw (kset l n x)=Zw l
 | []=>rfl
 | (k,v)::l=>by
  have ih:=kset_keys n x l;simp only [kset]
  split
  ·rename_i h;simp [Zw,h]
  ·simp only [Zw,List.map_cons] at ih ⊢;rw [ih]
theorem kins_perm(n:Int)(x:LV):∀ l:List (Int × LV),(Zw (kins l n x)).Perm (n::Zw l)
 | []=>.refl _
 | (k,v)::l=>by
  have ih:=kins_perm n x l;simp only [kins]
  split
  ·exact .refl _
  ·simp only [Zw,List.map_cons] at ih ⊢
   exact (ih.cons k).trans (.swap _ _ _)
theorem kput_keys(l:List (Int × LV))(n:Int)(x:LV):(n∈Zw l->Zw (kput l n x)=Zw l)/\(n∉Zw l->(Zw (kput l n x)).Perm (n::Zw l)):=by
 unfold kput
 constructor
 ·intro h;rw [if_pos ((kget_some_iff n l).2 h)];exact kset_keys n x l
 ·intro h;rw [if_neg (fun h'=>h ((kget_some_iff n l).1 h'))];exact kins_perm n x l
theorem kinc_keys(l:List (Int × LV))(n:Int):(n∈Zw l->Zw (kinc l n)=Zw l)/\(n∉Zw l->(Zw (kinc l n)).Perm (n::Zw l)):=by
 unfold kinc
 split
 ·exact kput_keys l n _
 ·exact kput_keys l n _
theorem kinc_mem(l:List (Int × LV))(n a:Int):a∈Zw (kinc l n)↔a=n∨a∈Zw l:=by
 by_cases h:n∈Zw l
 ·rw [(kinc_keys l n).1 h]
  exact ⟨.inr,by rintro (rfl | q);exact h;exact q⟩
 ·rw [((kinc_keys l n).2 h).mem_iff];simp
theorem kinc_nodup(l:List (Int × LV))(n:Int)(hn:(Zw l).Nodup):(Zw (kinc l n)).Nodup:=by
 by_cases h:n∈Zw l
 ·rw [(kinc_keys l n).1 h];exact hn
 ·exact ((kinc_keys l n).2 h).nodup_iff.2 (List.nodup_cons.2 ⟨h,hn⟩)
theorem kincs_mem:∀ (ks:List Int) (l:List (Int × LV)) (a:Int),a∈Zw (List.foldl kinc l ks)↔a∈ks∨a∈Zw l
 | [],l,a=>by simp
 | k::ks,l,a=>by
  rw [List.foldl_cons,kincs_mem ks,kinc_mem];simp only [List.mem_cons]
  constructor
  ·rintro (h | h | h)
   ·exact .inl (.inr h)
   ·exact .inl (.inl h)
   ·exact .inr h
  ·rintro ((h | h) | h)
   ·exact .inr (.inl h)
   ·exact .inl h
   ·exact .inr (.inr h)
theorem kincs_nodup:∀ (ks:List Int) (l:List (Int × LV)),(Zw l).Nodup->(Zw (List.foldl kinc l ks)).Nodup
 | [],l,h=>h
 | k::ks,l,h=>kincs_nodup ks _ (kinc_nodup l k h)
theorem pendN_some(a:Int)(b:List Int)(p:List LV)(l:List (Int × LV)):pendN (pnd (a,some b)::p) l=pendN p (kinc l a):=rfl
theorem pendN_none(a:Int)(p:List LV)(l:List (Int × LV)):pendN (pnd (a,none)::p) l=pendN p l:=rfl
theorem pendN_mem:∀ (p:PL) (l:List (Int × LV)) (a:Int),a∈Zw (pendN (Zg p) l)↔(∃ b,(a,some b)∈p)∨a∈Zw l
 | [],l,a=>by simp [pendN]
 | (k,some b)::p,l,a=>by
  show a∈Zw (pendN (pnd (k,some b)::Zg p) l)↔_
  rw [pendN_some,pendN_mem p,kinc_mem]
  constructor
  ·rintro (⟨c,h⟩ | h | h)
   ·exact .inl ⟨c,by simp [h]⟩
   ·exact .inl ⟨b,by simp [h]⟩
   ·exact .inr h
  ·rintro (⟨c,h⟩ | h)
   ·rcases List.mem_cons.1 h with h | h
    ·injection h with h1 h2;exact .inr (.inl h1)
    ·exact .inl ⟨c,h⟩
   ·exact .inr (.inr h)
 | (k,none)::p,l,a=>by
  show a∈Zw (pendN (pnd (k,none)::Zg p) l)↔_
  rw [pendN_none,pendN_mem p];simp
theorem pendN_nodup:∀ (p:PL) (l:List (Int × LV)),(Zw l).Nodup->(Zw (pendN (Zg p) l)).Nodup
 | [],l,h=>h
 | (k,some b)::p,l,h=>by
  show (Zw (pendN (pnd (k,some b)::Zg p) l)).Nodup
  rw [pendN_some];exact pendN_nodup p _ (kinc_nodup l k h)
 | (k,none)::p,l,h=>by
  show (Zw (pendN (pnd (k,none)::Zg p) l)).Nodup
  rw [pendN_none];exact pendN_nodup p _ h
theorem Y6(m:ML)(p:PL)(a:Int):a∈Zw (Zt m p)↔a∈Zn m∨∃ b,(a,some b)∈p:=by
 unfold Zt;rw [pendN_mem,kincs_mem];simp only [Zw,List.map_nil,List.not_mem_nil,or_false];exact Or.comm
theorem needs_nodup(m:ML)(p:PL):(Zw (Zt m p)).Nodup:=
 pendN_nodup p _ (kincs_nodup _ _ (by simp [Zw]))
theorem Xc(m:ML)(p:PL):(Zt m p).length=(Zw (Zt m p)).length:=by simp [Zw]
theorem needs_le(m m':ML)(p p':PL)(h:∀ a,a∈Zw (Zt m' p')->a∈Zw (Zt m p)):(Zt m' p').length<=(Zt m p).length:=by
 rw [Xc,Xc];exact sub_len (needs_nodup m' p') h
theorem needs_eq(m m':ML)(p p':PL)(h:∀ a,a∈Zw (Zt m' p')↔a∈Zw (Zt m p)):(Zt m' p').length=(Zt m p).length:=
 Nat.le_antisymm (needs_le m m' p p' fun a=>(h a).1) (needs_le m' m p' p fun a=>(h a).2)
theorem needs_more(m:ML)(p:PL)(a:Int)(b:List Int):(Zt m (p++[(a,some b)])).length<=(Zt m p).length+1:=by
 rw [Xc,Xc];refine Nat.le_trans (sub_len (k:=a::Zw (Zt m p)) (needs_nodup _ _) fun x hx=>?_) (by simp)
 rw [Y6] at hx;rw [List.mem_cons,Y6]
 rcases hx with h | ⟨c,h⟩
 ·exact .inr (.inl h)
 ·rcases List.mem_append.1 h with h | h
  ·exact .inr (.inr ⟨c,h⟩)
  ·simp at h;exact .inl h.1
theorem needs_same(m:ML)(p:PL)(a:Int)(b:List Int)(h:a∈Zw (Zt m p)):(Zt m (p++[(a,some b)])).length=(Zt m p).length:=by
 refine needs_eq _ _ _ _ fun x=>?_
 rw [Y6,Y6]
 constructor
 ·rintro (q | ⟨c,q⟩)
  ·exact .inl q
  ·rcases List.mem_append.1 q with q | q
   ·exact .inr ⟨c,q⟩
   ·simp at q
    rw [q.1,<- Y6];exact h
 ·rintro (q | ⟨c,q⟩)
  ·exact .inl q
  ·exact .inr ⟨c,by simp [q]⟩
theorem needs_free(m:ML)(p:PL)(a:Int):(Zt m (p++[(a,none)])).length=(Zt m p).length:=by
 refine needs_eq _ _ _ _ fun x=>?_
 rw [Y6,Y6]
 constructor
 ·rintro (q | ⟨c,q⟩)
  ·exact .inl q
  ·simp at q;exact .inr ⟨c,q⟩
 ·rintro (q | ⟨c,q⟩)
  ·exact .inl q
  ·exact .inr ⟨c,by simp [q]⟩
theorem needs_none(l:List (Int × LV))(a:Int):X4 l a=none↔a∉Zw l:=by
 rw [<- kget_some_iff];simp
theorem needs_int(m:ML)(p:PL):∀ x∈Zt m p,∃ c,x.2=.int .i64 c/\0<c:=by
 have hk:∀ (l:List (Int × LV)) (n:Int),(∀ x∈l,∃ c,x.2=.int .i64 c/\0<c)->∀ x∈kinc l n,∃ c,x.2=.int .i64 c/\0<c:=by
  intro l n h x hx;have hg:∀ c,X4 l n=some c->∃ k,c=.int .i64 k/\0<k:=by
   intro c hc;have:∀ l:List (Int × LV),X4 l n=some c->(n,c)∈l:=by
    intro l
    induction l with
    | nil=>simp [X4]
    | cons y l ih =>
     obtain ⟨k,v⟩:=y
     simp only [X4]
     split
     ·rename_i e;intro h;injection h with h;subst h;subst e;simp
     ·intro h;exact List.mem_cons_of_mem _ (ih h)
   obtain ⟨k,h1,h2⟩:=h _ (this l hc);exact ⟨k,h1,h2⟩
  have hp:∀ (v:Int),0<v->∀ x∈kput l n (.int .i64 v),∃ c,x.2=.int .i64 c/\0<c:=by
   intro v hv x hx;have hs:∀ l:List (Int × LV),(∀ x∈l,∃ c,x.2=.int .i64 c/\0<c)->∀ x∈kset l n (.int .i64 v),∃ c,x.2=.int .i64 c/\0<c:=by
    intro l
    induction l with
    | nil=>simp [kset]
    | cons y l ih =>
     obtain ⟨k,w⟩:=y
     intro h;simp only [kset]
     split
     ·intro x hx
      rcases List.mem_cons.1 hx with rfl | hx
      ·exact ⟨v,rfl,hv⟩
      ·exact h x (by simp [hx])
     ·intro x hx
      rcases List.mem_cons.1 hx with rfl | hx
      ·exact h _ (by simp)
      ·exact ih (fun x hx=>h x (by simp [hx])) x hx
   have hi:∀ l:List (Int × LV),(∀ x∈l,∃ c,x.2=.int .i64 c/\0<c)->∀ x∈kins l n (.int .i64 v),∃ c,x.2=.int .i64 c/\0<c:=by
    intro l
    induction l with
    | nil=>simp only [kins];intro _ x hx;simp at hx;subst hx;exact ⟨v,rfl,hv⟩
    | cons y l ih =>
     obtain ⟨k,w⟩:=y
     intro h;simp only [kins]
     split
     ·intro x hx
      rcases List.mem_cons.1 hx with rfl | hx
      ·exact ⟨v,rfl,hv⟩
      ·exact h x hx
     ·intro x hx
      rcases List.mem_cons.1 hx with rfl | hx
      ·exact h _ (by simp)
      ·exact ih (fun x hx=>h x (by simp [hx])) x hx
   unfold kput at hx
   split at hx
   ·exact hs l h x hx
   ·exact hi l h x hx
  unfold kinc at hx
  split at hx
  ·rename_i k c hc
   obtain ⟨q,h1,h2⟩:=hg _ hc;injection h1 with _ h1
   exact hp (c+1) (by omega) x hx
  ·exact hp 1 (by omega) x hx
 have hf:∀ (ks:List Int) (l:List (Int × LV)),(∀ x∈l,∃ c,x.2=.int .i64 c/\0<c)->∀ x∈List.foldl kinc l ks,∃ c,x.2=.int .i64 c/\0<c:=by
  intro ks
  induction ks with
  | nil=>exact fun l h=>h
  | cons k ks ih=>exact fun l h=>ih _ (hk l k h)
 have hq:∀ (p:PL) (l:List (Int × LV)),(∀ x∈l,∃ c,x.2=.int .i64 c/\0<c)->∀ x∈pendN (Zg p) l,∃ c,x.2=.int .i64 c/\0<c:=by
  intro p
  induction p with
  | nil=>exact fun l h=>h
  | cons y p ih =>
   obtain ⟨a,o⟩:=y
   intro l h
   cases o with
   | none=>exact ih l h
   | some b=>exact ih _ (hk l a h)
 exact hq p _ (hf _ _ (by simp))
theorem needs_at(m:ML)(p:PL)(a:Int)(h:a∈Zw (Zt m p)):∃ c,X4 (Zt m p) a=some (.int .i64 c)/\0<c:=by
 have h1:=(kget_some_iff a (Zt m p)).2 h;obtain ⟨v,hv⟩:=Option.isSome_iff_exists.1 h1;have:∀ l:List (Int × LV),X4 l a=some v->(a,v)∈l:=by
  intro l
  induction l with
  | nil=>simp [X4]
  | cons y l ih =>
   obtain ⟨k,w⟩:=y
   simp only [X4]
   split
   ·rename_i e;intro h;injection h with h;subst h;subst e;simp
   ·intro h;exact List.mem_cons_of_mem _ (ih h)
 obtain ⟨c,h2,h3⟩:=needs_int m p _ (this _ hv);simp only at h2;subst h2;exact ⟨c,hv,h3⟩
def Asc(m:ML):Prop:=(Zn m).Pairwise (· < ·)
theorem mset_keys(n:Int)(x:List Int):∀ m:ML,Zn (mset m n x)=Zn m
 | []=>rfl
 | (k,v)::m=>by
  have ih:=mset_keys n x m;simp only [mset]
  split
  ·rename_i h;simp [Zn,h]
  ·simp only [Zn,List.map_cons] at ih ⊢;rw [ih]
theorem mins_mem(n:Int)(x:List Int)(a:Int):∀ m:ML,a∈Zn (mins m n x)↔a=n∨a∈Zn m
 | []=>by simp [mins,Zn]
 | (k,v)::m=>by
  have ih:=mins_mem n x a m;simp only [mins]
  split
  ·simp [Zn]
  ·simp only [Zn,List.map_cons,List.mem_cons] at ih ⊢
   rw [ih]
   constructor
   ·rintro (h | h | h)
    ·exact .inr (.inl h)
    ·exact .inl h
    ·exact .inr (.inr h)
   ·rintro (h | h | h)
    ·exact .inr (.inl h)
    ·exact .inl h
    ·exact .inr (.inr h)
theorem mins_asc(n:Int)(x:List Int):∀ m:ML,Asc m->n∉Zn m->Asc (mins m n x)
 | [],_,_=>by simp [mins,Asc,Zn]
 | (k,v)::m,h,hn=>by
  have hp:(k::Zn m).Pairwise (· < ·):=h
  obtain ⟨h1,h2⟩:=List.pairwise_cons.1 hp;have hnk:n≠k:=fun e=>hn (by simp [Zn,e])
  have hnm:n∉Zn m:=fun e=>hn (by simp only [Zn,List.map_cons,List.mem_cons];exact .inr e)
  simp only [mins]
  split
  ·rename_i hlt
   show (n::k::Zn m).Pairwise (· < ·)
   refine .cons (fun y hy=>?_) hp
   rcases List.mem_cons.1 hy with rfl | hy
   ·exact hlt
   ·have:=h1 y hy;omega
  ·rename_i hge
   have ih:=mins_asc n x m h2 hnm
   show (k::Zn (mins m n x)).Pairwise (· < ·)
   refine .cons (fun y hy=>?_) ih
   rcases (mins_mem n x y m).1 hy with rfl | hy
   ·omega
   ·exact h1 y hy
theorem Xe(n:Int):∀ m:ML,(mget m n).isSome=true↔n∈Zn m
 | []=>by simp [mget,Zn]
 | (k,v)::m=>by
  have ih:=Xe n m;simp only [mget,Zn,List.map_cons,List.mem_cons] at ih ⊢
  split
  ·rename_i h;simp [h]
  ·rename_i h
   rw [ih]
   constructor
   ·exact fun q=>.inr q
   ·rintro (q | q)
    ·exact absurd q.symm h
    ·exact q
theorem mput2_asc{m:ML}(h:Asc m)(n:Int)(x:List Int):Asc (W6 m n x):=by
 unfold W6
 split
 ·unfold Asc;rw [mset_keys];exact h
 ·rename_i hn
  exact mins_asc n x m h (fun q=>hn ((Xe n m).2 q))
theorem mput2_mem(m:ML)(n:Int)(x:List Int)(a:Int):a∈Zn (W6 m n x)↔a=n∨a∈Zn m:=by
 unfold W6
 split
 ·rename_i h
  rw [mset_keys];exact ⟨.inr,by rintro (rfl | q);exact (Xe _ _).1 h;exact q⟩
 ·exact mins_mem n x a m
theorem mdel_sub(n:Int):∀ m:ML,(mdel m n).Sublist m
 | []=>.slnil
 | (k,v)::m=>by
  simp only [mdel]
  split
  ·exact List.sublist_cons_self _ _
  ·exact (mdel_sub n m).cons_cons _
theorem mdel_asc{m:ML}(h:Asc m)(n:Int):Asc (mdel m n):=h.sublist ((mdel_sub n m).map _)
theorem mdel_mem{m:ML}{n a:Int}(h:a∈Zn (mdel m n)):a∈Zn m:=((mdel_sub n m).map (·.1)).subset h
theorem mset_val{m:ML}{n:Int}{x:List Int}:∀ {y:Int × List Int},y∈mset m n x->y∈m∨y=(n,x):=by
 induction m with
 | nil=>intro y hy;simp [mset] at hy
 | cons z m ih =>
  obtain ⟨k,v⟩:=z
  intro y hy;simp only [mset] at hy
  split at hy
  ·rcases List.mem_cons.1 hy with rfl | hy
   ·exact .inr rfl
   ·exact .inl (by simp [hy])
  ·rcases List.mem_cons.1 hy with rfl | hy
   ·exact .inl (by simp)
   ·exact (ih hy).imp (fun q=>by simp [q]) id
theorem mins_val{m:ML}{n:Int}{x:List Int}:∀ {y:Int × List Int},y∈mins m n x->y∈m∨y=(n,x):=by
 induction m with
 | nil=>intro y hy;simp [mins] at hy;exact .inr hy
 | cons z m ih =>
  obtain ⟨k,v⟩:=z
  intro y hy;simp only [mins] at hy
  split at hy
  ·rcases List.mem_cons.1 hy with rfl | hy
   ·exact .inr rfl
   ·exact .inl hy
  ·rcases List.mem_cons.1 hy with rfl | hy
   ·exact .inl (by simp)
   ·exact (ih hy).imp (fun q=>by simp [q]) id
theorem mput2_val{m:ML}{n:Int}{x:List Int}{y:Int × List Int}(h:y∈W6 m n x):y∈m∨y=(n,x):=by
 unfold W6 at h
 split at h
 ·exact mset_val h
 ·exact mins_val h
def inR(a:Int):Prop:=0<=a/\a<=1073741824
def okM(m:ML):Prop:=Asc m/\∀ x∈m,inR x.1/\x.2.length=64
def okQ(p:PL):Prop:=∀ x∈p,inR x.1/\∀ b,x.2=some b->b.length=64
theorem okM.put{m:ML}(h:okM m){a:Int}(ha:inR a){b:List Int}(hb:b.length=64):okM (W6 m a b):=
 ⟨mput2_asc h.1 a b,fun x hx=>(mput2_val hx).elim (h.2 x) (by rintro rfl;exact ⟨ha,hb⟩)⟩
theorem okM.del{m:ML}(h:okM m)(a:Int):okM (mdel m a):=⟨mdel_asc h.1 a,fun x hx=>h.2 x ((mdel_sub a m).subset hx)⟩
theorem okM.nil:okM []:=⟨by simp [Asc,Zn],by simp⟩
theorem okM.apply:∀ {p:PL} {m:ML},okQ p->okM m->okM (applyM p m)
 | [],m,_,h=>h
 | (a,some b)::q,m,hp,h=>by
  have hx:=hp (a,some b) (by simp)
  exact okM.apply (p:=q) (fun x hx=>hp x (by simp [hx])) (h.put hx.1 (hx.2 b rfl))
 | (a,none)::q,m,hp,h=>okM.apply (p:=q) (fun x hx=>hp x (by simp [hx])) (h.del a)
theorem apply_mem:∀ {p:PL} {m:ML} {a:Int},a∈Zn (applyM p m)->a∈Zn m∨∃ b,(a,some b)∈p
 | [],m,a,h=>.inl h
 | (k,some b)::q,m,a,h=>by
  rcases apply_mem (p:=q) h with h | ⟨c,h⟩
  ·rcases (mput2_mem m k b a).1 h with rfl | h
   ·exact .inr ⟨b,by simp⟩
   ·exact .inl h
  ·exact .inr ⟨c,by simp [h]⟩
 | (k,none)::q,m,a,h=>by
  rcases apply_mem (p:=q) h with h | ⟨c,h⟩
  ·exact .inl (mdel_mem h)
  ·exact .inr ⟨c,by simp [h]⟩
theorem cur_length(m:ML)(a:Int):(cur m a).length=64:=by
 unfold cur;split <;> simp
theorem torn_length(m:ML)(a:Int)(b:List Int)(hb:b.length=64)(n:Nat):(Ze (cur m a) 0 (b.take n)).length=64:=by
 rw [spliceI_length,cur_length];simp;omega
theorem step_val(ks:List Int)(cut last:Int)(k:Nat)(m:ML)(x:Int × Option (List Int))(hx:inR x.1/\∀ b,x.2=some b->b.length=64)(h:okM m):
  okM (stepM ks cut last k m x)/\∀ a,a∈Zn (stepM ks cut last k m x)->a∈Zn m∨∃ b,x=(a,some b):=by
 unfold stepM
 split
 ·exact ⟨h,fun a=>.inl⟩
 ·obtain ⟨n,o⟩:=x
  cases o with
  | none=>exact ⟨h.del n,fun a ha=>.inl (mdel_mem ha)⟩
  | some b =>
   have hb:=hx.2 b rfl;simp only
   split
   ·exact ⟨h.put hx.1 (torn_length m n b hb _),fun a ha=>((mput2_mem _ _ _ _).1 ha).elim (fun e=>.inr ⟨b,by rw [e]⟩) .inl⟩
   ·exact ⟨h.put hx.1 hb,fun a ha=>((mput2_mem _ _ _ _).1 ha).elim (fun e=>.inr ⟨b,by rw [e]⟩) .inl⟩
theorem crashM_ok(ks:List Int)(cut last:Int):∀ (p:PL) (k:Nat) (m:ML),okQ p->okM m ->
  okM (crashM ks cut last p k m)/\∀ a,a∈Zn (crashM ks cut last p k m)->a∈Zn m∨∃ b,(a,some b)∈p
 | [],k,m,_,h=>⟨h,fun a=>.inl⟩
 | x::q,k,m,hp,h=>by
  obtain ⟨s1,s2⟩:=step_val ks cut last k m x (hp x (by simp)) h
  obtain ⟨h1,h2⟩:=crashM_ok ks cut last q (k+1) _ (fun y hy=>hp y (by simp [hy])) s1
  refine ⟨h1,fun a ha=>?_⟩
  rcases h2 a ha with h | ⟨b,h⟩
  ·rcases s2 a h with h | ⟨b,h⟩
   ·exact .inl h
   ·exact .inr ⟨b,by simp [h]⟩
  ·exact .inr ⟨b,by simp [h]⟩
theorem okQ.ok64{p:PL}(h:okQ p):ok64 p:=fun x hx b hb=>(h x hx).2 b hb
theorem okQ.snoc{p:PL}(h:okQ p){a:Int}(ha:inR a)(o:Option (List Int))(ho:∀ b,o=some b->b.length=64):okQ (p++[(a,o)]):=by
 intro x hx
 rcases List.mem_append.1 hx with hx | hx
 ·exact h x hx
 ·simp at hx;subst hx;exact ⟨ha,ho⟩
theorem okM.keys{m:ML}(h:okM m)(hl:m.length<=1000000):keysOk (Zq m):=by
 refine ⟨?_,?_,by simpa [Zq] using hl⟩
 ·rw [show (Zq m).map (·.1)=Zn m from mapE_fst m]
  have:∀ l:List Int,l.Pairwise (· < ·)->ascB l=true:=by
   intro l
   induction l with
   | nil=>intro _;rfl
   | cons a l ih =>
    intro h;obtain ⟨h1,h2⟩:=List.pairwise_cons.1 h
    cases l with
    | nil=>rfl
    | cons b l =>
     simp only [ascB,Bool.and_eq_true,decide_eq_true_eq];exact ⟨h1 b (by simp),ih h2⟩
  exact this _ h.1
 ·intro x hx
  simp only [Zq,List.mem_map] at hx;obtain ⟨y,hy,rfl⟩:=hx;obtain ⟨⟨h1,h2⟩,_⟩:=h.2 y hy;simp only;omega
theorem needs_of(m:ML)(h:Asc m):(Zt m []).length=m.length:=by
 have h1:(Zn m).Nodup:=h.imp (fun h=>by omega)
 have h2:m.length=(Zn m).length:=by simp [Zn]
 rw [Xc,h2];refine Nat.le_antisymm (sub_len (needs_nodup m []) fun a ha=>?_) (sub_len h1 fun a ha=>?_)
 ·rw [Y6] at ha;simpa using ha
 ·rw [Y6];exact .inl ha
end Go.Mac.Nd
namespace Go.Mac
open Go Go.Eng Go.Proofs Go.Mac.Nd
set_option maxRecDepth 100000
theorem okQ.nil:okQ []:=by intro x h;exact nomatch h
theorem blk64{b:List Int}(h:b.length=64):blk b=b:=by
 rw [<- blk_padS];rw [List.take_append_of_le_length (by omega),List.take_of_length_le (by omega)]
theorem sync_needs(m:ML)(p:PL):(Zt (applyM p m) []).length<=(Zt m p).length:=needs_le _ _ _ _ fun a ha=>by
 rw [Y6] at ha ⊢
 rcases ha with h | ⟨b,h⟩
 ·exact apply_mem h
 ·simp at h
theorem crash_needs(m:ML)(p:PL)(hp:okQ p)(hm:okM m)(ks:List Int)(cut:Int):(Zt (V6 m p ks cut) []).length<=(Zt m p).length:=needs_le _ _ _ _ fun a ha=>by
 rw [Y6] at ha ⊢
 rcases ha with h | ⟨b,h⟩
 ·exact (crashM_ok ks cut _ p 0 m hp hm).2 a h
 ·simp at h
set_option maxHeartbeats 0
def cellR(x:Int × List Int):LV:=.agg [.int .i64 x.1,.isl 1 (bys x.2)]
def Z1(m:ML):List LV:=m.map cellR
@[simp] theorem cellsR_length(m:ML):(Z1 m).length=m.length:=by simp [Z1]
def looR(x:Int × Option (List Int)):LV:=match x.2 with
 | some b=>.agg [.int .i64 x.1,.bool false,.isl 1 (bys b)]
 | none=>.agg [.int .i64 x.1,.bool true,.nils]
def Z5(p:PL):List LV:=p.map looR
@[simp] theorem loosR_length(p:PL):(Z5 p).length=p.length:=by simp [Z5]
abbrev rR(rm:Int)(m:ML)(p:PL):LV:=.agg [.int .i64 rm,.isl 2 (Z1 m),.isl 3 (Z5 p)]
theorem Wy{m:ML}{i:Nat}{x:Int × List Int}(h:m[i]? = some x):(Z1 m)[i]? = some (.agg [.int .i64 x.1,.isl 1 (bys x.2)]):=by simp [Z1,cellR,h]
@[simp] theorem sealL_loosR:∀ p:PL,Zo (Z5 p)=Z5 p
 | []=>rfl
 | (a,some b)::p=>by
  show Zo (looR (a,some b)::Z5 p)=_
  simp only [looR,Zo,Zx];rw [sealL_loosR p];rfl
 | (a,none)::p=>by
  show Zo (looR (a,none)::Z5 p)=_
  simp only [looR,Zo,Zx];rw [sealL_loosR p];rfl
@[simp] theorem sealL_cellsR:∀ m:ML,Zo (Z1 m)=Z1 m
 | []=>rfl
 | (a,b)::m=>by
  show Zo (cellR (a,b)::Z1 m)=_
  simp only [cellR,Zo,Zx];rw [sealL_cellsR m];rfl
@[simp] theorem okElems_loosR(f:Bool)(p:PL):Yj f 3 (Z5 p)=true:=by
 unfold Yj Z5;rw [List.all_eq_true];intro x hx;obtain ⟨⟨a,o⟩,_,rfl⟩:=List.mem_map.1 hx
 cases o <;> cases f <;> rfl
@[simp] theorem okElems_cellsR(f:Bool)(m:ML):Yj f 2 (Z1 m)=true:=by
 unfold Yj Z1;rw [List.all_eq_true];intro x hx;obtain ⟨y,_,rfl⟩:=List.mem_map.1 hx
 cases f <;> rfl
end Go.Mac
namespace Go.Mac
open Go Go.Eng Go.Proofs Go.Mac.Nd
open Go.IntKind (i64)
open Go.Proofs.Tryz (prog)
set_option maxHeartbeats 0
set_option maxRecDepth 100000
abbrev fiE(m:ML)(a i:Int):LEnv:=[.isl 2 (Z1 m),.int i64 a,.any,.any,.any,.any,.int i64 i,.any,.any,.any,.any,.any,.any,.any,.any,.any,.any,.any,.any,.any,.any,.any,.any,.any,.any]
abbrev fiX(m:ML)(a i:Int):LEnv:=[.isl 2 (Z1 m),.int i64 a,.any,.any,.any,.any,.int i64 i,.int i64 i,.isl 2 (Z1 m),.int i64 ((Z1 m).length:Int),.bool (decide (i<((Z1 m).length:Int))),.any,.any,.any,.any,.any,.any,.any,.any,.any,.any,.any,.any,.any,.any]
abbrev fiH(m:ML)(a i:Int)(b:List Int):LEnv:=[.isl 2 (Z1 m),.int i64 a,.any,.any,.isl 1 (bys b),.bool true,.int i64 i,.int i64 i,.isl 2 (Z1 m),.int i64 ((Z1 m).length:Int),.bool (decide (i<((Z1 m).length:Int))),.any,.any,.isl 2 (Z1 m),.int i64 i,(LV.agg [.int i64 a,.isl 1 (bys b)]).irp,(LV.int i64 a).irp,.int i64 a,.int i64 a,.bool (decide (a=a)),.isl 2 (Z1 m),.int i64 i,(LV.agg [.int i64 a,.isl 1 (bys b)]).irp,(LV.isl 1 (bys b)).irp,.isl 1 (bys b)]
theorem fi_step(n fu:Nat)(m:ML)(hm:m.length<=1000000)(a i:Int)(h0:0<=i)(hi:i<(m.length:Int))(c:Int)(b:List Int)(hx:(Z1 m)[i.toNat]? = some (.agg [.int .i64 c,.isl 1 (bys b)]))(hne:¬ c=a)(r:LX × LEnv × St)(hr:Z2 prog Ck (n+20) 57 0 0 fu (fiE m a (i+1)) ⟨0,[]⟩=some r):Z2 prog Ck (n+20) 57 0 0 (fu+1) (fiE m a i) ⟨0,[]⟩=some r:=by
 have f1:decide (i<((Z1 m).length:Int))=true:=by simp;omega
 have f2:(Z1 m)[i.toNat]? = some (LV.agg [.int i64 c,.isl 1 (bys b)]):=hx;have f3:0<=i/\i<((Z1 m).length:Int):=by simp;omega
 have f4:decide (c=a)=false:=by simp;omega
 have f5:LV.int i64 (IntKind.wrap i64 (i+1))=LV.int i64 (i+1):=by simp (disch:=omega)
 have f6:=hr;exact dlp (fun h=>ai (congrArg LV.bool f1)<|ai (f3)<|ai (f2)<|ai (congrArg LV.bool f4)<|ai (f5)<|ai (Eq.refl (Z9 f6))<|ai (f6)<|h) (.i (.s (.s (.a) (.b true (.a))) (.s (.k (.s (.r [.a,.a,.e (rOf f2)]) (.b false (.a)))) (.r [.a,.v (vOf f5) (.a)]))) (.h [] (eOf f6) (Zp f6) (rOf f6))) (by kernel_rfl)
theorem fi_hit(n fu:Nat)(m:ML)(hm:m.length<=1000000)(a i:Int)(h0:0<=i)(hi:i<(m.length:Int))(b:List Int)(hx:(Z1 m)[i.toNat]? = some (.agg [.int .i64 a,.isl 1 (bys b)])):
  Z2 prog Ck (n+20) 57 0 0 (fu+1) (fiE m a i) ⟨0,[]⟩=some (.ret,fiH m a i b,⟨0,[]⟩):=by
 have f1:decide (i<((Z1 m).length:Int))=true:=by simp;omega
 have f2:(Z1 m)[i.toNat]? = some (LV.agg [.int i64 a,.isl 1 (bys b)]):=hx;have f3:0<=i/\i<((Z1 m).length:Int):=by simp;omega
 have f4:decide (a=a)=true:=by simp
 exact dlp (fun h=>ai (congrArg LV.bool f1)<|ai (f3)<|ai (f2)<|ai (congrArg LV.bool f4)<|ai (f3)<|ai (f2)<|h) (.i (.s (.s (.a) (.b true (.a))) (.s (.k (.s (.r [.a,.a,.e (rOf f2)]) (.b true (.s (.r [.a,.a,.e (rOf f2)]) (.a))))) .a)) (.a)) (by kernel_rfl)
theorem fi_end(n fu:Nat)(m:ML)(hm:m.length<=1000000)(a i:Int)(hi:(m.length:Int)<=i):
  Z2 prog Ck (n+20) 57 0 0 (fu+1) (fiE m a i) ⟨0,[]⟩=some (.exit 0,fiX m a i,⟨0,[]⟩):=by
 have f1:decide (i<((Z1 m).length:Int))=false:=by simp;omega
 exact dlp (fun h=>ai (congrArg LV.bool f1)<|h) (.i (.s (.s (.a) (.b false (.a))) .a) (.a)) (by kernel_rfl)
theorem find_hit(n:Nat)(m:ML)(hm:m.length<=1000000)(a i:Int)(b:List Int)(L:Z2 prog Ck (n+20) 57 0 0 (n+20) (fiE m a 0) ⟨0,[]⟩=some (.ret,fiH m a i b,⟨0,[]⟩)):
  Z6 prog Ck (Z3 prog Ck (n+20)) (n+20) 57 [.isl 2 (Z1 m),.int .i64 a] ⟨0,[]⟩=some (.tup [.isl 1 (bys b),.bool true],⟨0,[]⟩):=by
 have f1:=L
 exact drn (fun h=>ai (Eq.refl (Z9 f1))<|ai (f1)<|h) (.s (.a) (.s (.s (.a) (.k (.l (.h [] (eOf f1) (Zp f1) (rOf f1))))) .a)) [] .a (by kernel_rfl)
theorem find_none(n:Nat)(m:ML)(hm:m.length<=1000000)(a:Int)(L:Z2 prog Ck (n+20) 57 0 0 (n+20) (fiE m a 0) ⟨0,[]⟩=some (.exit 0,fiX m a m.length,⟨0,[]⟩)):
  Z6 prog Ck (Z3 prog Ck (n+20)) (n+20) 57 [.isl 2 (Z1 m),.int .i64 a] ⟨0,[]⟩=some (.tup [.isl 1 [],.bool false],⟨0,[]⟩):=by
 have f1:=L
 exact drn (fun h=>ai (Eq.refl (Z9 f1))<|ai (f1)<|h) (.s (.a) (.s (.s (.a) (.k (.l (.h [] (eOf f1) (Zp f1) (rOf f1))))) (.a))) [] .a (by kernel_rfl)
end Go.Mac
