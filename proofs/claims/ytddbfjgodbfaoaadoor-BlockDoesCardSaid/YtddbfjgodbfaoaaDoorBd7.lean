/-
 BlockDoes holds for every input: each call is answered, and the blocks are, as the reference says; the condition is the card's own.
-/
import Derived.Test.YtddbfjgodbfaoaaDoorBd5
import Derived.Test.YtddbfjgodbfaoaaDoorBd6
import Derived.Test.YtddbfjgodbfaoaaDoorProg
import Derived.KernelRfl
set_option linter.unusedVariables false
set_option linter.unusedSimpArgs false
namespace Go.Mac
open Go Go.Eng Go.Proofs
open Go.IntKind (i64)
open Go.Proofs.Tryd (prog)
set_option maxHeartbeats 0
set_option maxRecDepth 100000
theorem right_ok (n : Nat) (at_ : Int) (h : 0 ≤ at_) (h2 : at_ ≤ 1073741824) : lrun prog C0 (lcall prog C0 (n + 9)) (n + 9) 39 [.int .i64 at_] ⟨0, []⟩ = some (.nili, ⟨0, []⟩) := by
 have f1 : decide (at_ < 0) = false := by simp; omega
 have f2 : LV.bool (if decide (at_ < 0) = true then true else decide (1073741824 < at_)) = LV.bool false := by simp; omega
 exact drn (fun h => ai (congrArg some f1) <| ai (congrArg some f1) <| ai (f2) <| h) (.s (.a) (.s (.s (.r [.a, .a, .a, .g false (.a), .g false (.a), .v (vOf f2) (.a)]) (.a)) (.a))) [] .a (by kernel_rfl)
theorem right_no (n : Nat) (at_ : Int) (h : at_ < 0 ∨ 1073741824 < at_) : lrun prog C0 (lcall prog C0 (n + 9)) (n + 9) 39 [.int .i64 at_] ⟨0, []⟩ = some (.ifc 95 (.agg [.str [98,108,111,99,107], .int .i64 at_, .ifc 31 (.int .i64 2)]), ⟨0, []⟩) := by
 by_cases h1 : at_ < 0
 ·have f1 : decide (at_ < 0) = true := by simp; omega
  have f2 : lpick (decide (at_ < 0)) (LV.bool true) LV.any = some (LV.bool true) := by simp; omega
  exact drn (fun h => ai (congrArg some f1) <| ai (congrArg some f1) <| ai (x_map (st := (St.mk 0 [])) f2) <| h) (.s (.a) (.s (.s (.r [.a, .a, .a, .g true (.a), .g true (.a), .t (rOf (x_map (st := (St.mk 0 [])) f2))]) (.a)) .a)) [] .a (by kernel_rfl)
 ·have : 1073741824 < at_ := by omega
  have f1 : decide (at_ < 0) = false := by simp; omega
  have f2 : LV.bool (if decide (at_ < 0) = true then true else decide (1073741824 < at_)) = LV.bool true := by simp; omega
  exact drn (fun h => ai (congrArg some f1) <| ai (congrArg some f1) <| ai (f2) <| h) (.s (.a) (.s (.s (.r [.a, .a, .a, .g false (.a), .g false (.a), .v (vOf f2) (.a)]) (.a)) .a)) [] .a (by kernel_rfl)
theorem whole_ok (n : Nat) (b : List Int) : lrun prog C0 (lcall prog C0 (n + 9)) (n + 9) 35 [.isl 1 (bys b)] ⟨0, []⟩ = some (.sl 1 0 0 64 none, ⟨1, [(0, .row 5 1 (bys (blk b)))]⟩) := by
 have f1 : okElems true 1 (sealL (bys b)) = true := by simp
 have f2 : 64 ≤ 64 := by omega
 have f3 : LV.int i64 (↑(min (List.length (sealL (bys b))) 64) : Int) = LV.int i64 (↑(min (List.length b) 64) : Int) := by simp
 have f4 : LObj.row 5 1 (lsplice (List.replicate 64 (LV.int IntKind.u8 0)) 0 (List.take (min (List.length (sealL (bys b))) 64) (sealL (bys b)))) = LObj.row 5 1 (bys (spliceI (List.replicate 64 0) 0 (List.take (min (List.length b) 64) b))) := by simp
 exact drn (fun h => ai (f1) <| ai (f2) <| ai (f3) <| ai (congrArg some f4) <| h) (.s (.a) (.s (.a) (.s (.r [.a, .a, .x 0 (vOf f4) (.v (vOf f3) (.q))]) (.a)))) [] .a (by kernel_rfl)
theorem bput_some (n : Nat) (at_ : Int) (b : List Int) (w : List (Int × LV)) (hb : b ≠ []) : lrun prog C0 (lcall prog C0 (n + 10)) (n + 10) 42 [.map 0, .agg [.int .i64 at_, .isl 1 (bys b)]] ⟨1, [(0, .map .i64 w)]⟩ = some (.tup [], ⟨1, [(0, .map .i64 (kput w at_ (.isl 1 (bys b))))]⟩) := by
 have f1 : List.isEmpty (bys b) = false := by simp; omega
 exact drn (fun h => ai (f1) <| h) (.s (.a) (.s (.s (.r [.a, .a, .q]) (.a)) (.a))) [] .a (by kernel_rfl)
theorem bput_none (n : Nat) (at_ : Int) (w : List (Int × LV)) : lrun prog C0 (lcall prog C0 (n + 10)) (n + 10) 42 [.map 0, .agg [.int .i64 at_, .nils]] ⟨1, [(0, .map .i64 w)]⟩ = some (.tup [], ⟨1, [(0, .map .i64 (kdel w at_))]⟩) := by
 exact drn (fun h => h) (.a) [] .a (by kernel_rfl)
def needs (m : ML) (p : PL) : List (Int × LV) := pendN (pnds p) (List.foldl kinc [] (mapK m))
def okP (p : PL) : Prop := ∀ x ∈ p, ∀ b, x.2 = some b → b ≠ []
theorem u8_bys (b : List Int) : (bys b).all isU8 = true := by
 rw [List.all_eq_true]
 intro x hx
 obtain ⟨n, _, rfl⟩ := List.mem_map.1 hx
 rfl
theorem okW_pnds : ∀ {p : PL}, okP p → (pnds p).all okW = true
 | [], _ => rfl
 | (a, none) :: p, h => by
  have := okW_pnds (p := p) (fun x hx => h x (List.mem_cons_of_mem _ hx))
  show (okW (.agg [.int .i64 a, .nils]) && (pnds p).all okW) = true
  rw [this]; rfl
 | (a, some []) :: p, h => absurd rfl (h _ List.mem_cons_self [] rfl)
 | (a, some (x :: b)) :: p, h => by
  have := okW_pnds (p := p) (fun x hx => h x (List.mem_cons_of_mem _ hx))
  show (okW (.agg [.int .i64 a, .isl 1 (bys (x :: b))]) && (pnds p).all okW) = true
  rw [this, Bool.and_true]
  exact u8_bys (x :: b)
theorem okBs_mapV (m : ML) : (mapV m).all okBs = true := by
 rw [List.all_eq_true]
 intro x hx
 obtain ⟨y, _, rfl⟩ := List.mem_map.1 hx
 exact u8_bys y.2
theorem needs_ok (n : Nat) (rm : Int) (m : ML) (p : PL) (hp : p.length ≤ 1000000) (ho : okP p) :
  lrun prog C0 (lcall prog C0 n) n 36 [.ptr 0 0] ⟨1, [(0, dO rm m p)]⟩ = some (.map 1, ⟨2, [(0, dO rm m p), (1, .map .i64 (needs m p))]⟩) := by
 have X : xNeeds [.ptr 0 0] ⟨1, [(0, dO rm m p)]⟩ = some (.map 1, ⟨2, [(1, .map .i64 (needs m p)), (0, dO rm m p)]⟩) := by
  have h1 := okW_pnds ho
  have h2 : (pnds p).length ≤ 1048576 := by simp; omega
  simp only [xNeeds, St.look, olook, if_true, h1, h2, and_self, zip_mapKV, mapE_fst, needs, St.add]
 exact x_runx rfl X (by kernel_rfl)
theorem write_new (n : Nat) (at_ : Int) (b : List Int) (rm : Int) (m : ML) (p : PL) (h0 : 0 ≤ at_) (h1 : at_ ≤ 1073741824) (hb : b.length ≤ 64) (hp : p.length ≤ 1000000) (ho : okP p)
  (hk : kget (needs m p) at_ = none) (hr : (needs m p).length < rm) :
  lrun prog C0 (lcall prog C0 (n + 20)) (n + 20) 19 [.ptr 0 0, .int .i64 at_, .isl 1 (bys b)] ⟨1, [(0, dO rm m p)]⟩ = some (.nili, ⟨1, [(0, dO rm m (p ++ [(at_, some (spliceI (List.replicate 64 0) 0 b))]))]⟩) := by
 have f1 := right_ok (n + 10) at_ h0 h1
 have f2 : decide (64 < ((bys b).length : Int)) = false := by simp; omega
 have f3 := needs_ok (n + 19) rm m p hp ho
 have f4 : LV.int i64 ((bys b).length : Int) = LV.int i64 (b.length : Int) := by simp
 have f5 : LV.bool (decide (64 < ((bys b).length : Int))) = LV.bool false := by simp; omega
 have f6 : LObj.map i64 (List.zip (mapK m) (mapV m)) = LObj.map i64 (mapE m) := by simp
 have f7 : LObj.box 64 [.int i64 rm, .map 2, .sl 2 3 0 (List.length (pnds p)) none] = LObj.box 64 [.int i64 rm, .map 2, .sl 2 3 0 (List.length p) none] := by simp
 have f8 : kget (needs m p) at_ = none := hk
 have f9 : LV.bool (if true = true then decide (rm ≤ ((needs m p).length : Int)) else false) = LV.bool false := by simp; omega
 have f10 : okElems true 1 (sealL (bys b)) = true := by simp
 have f11 : 64 ≤ 64 := by omega
 have f12 : LV.int i64 (↑(min (List.length (sealL (bys b))) 64) : Int) = LV.int i64 (b.length : Int) := by simp (disch := omega)
 have f13 : LObj.row 5 1 (lsplice (List.replicate 64 (LV.int IntKind.u8 0)) 0 (List.take (min (List.length (sealL (bys b))) 64) (sealL (bys b)))) = LObj.row 5 1 (bys (spliceI (List.replicate 64 0) 0 b)) := by simp (disch := omega) [-List.reduceReplicate]
 have f14 : (if 4 = 4 then if 1 = 1 ∧ 0 + 64 ≤ List.length (bys (spliceI (List.replicate 64 0) 0 b)) ∧ capLe 64 none = true then LV.isl 1 (List.take 64 (List.drop 0 (bys (spliceI (List.replicate 64 0) 0 b)))) else LV.any else LV.sl 1 4 0 64 none) = LV.isl 1 (bys (spliceI (List.replicate 64 0) 0 b)) := by simp (disch := first | omega | (simp; omega)) [-List.reduceReplicate]
 have f15 : LV.bool (decide (rm ≤ ((needs m p).length : Int))) = LV.bool false := by simp; omega
 have f16 : LV.agg [.int i64 at_, if 4 = 4 then if 1 = 1 ∧ 0 + 64 ≤ List.length (bys (spliceI (List.replicate 64 0) 0 b)) ∧ capLe 64 none = true then LV.isl 1 (List.take 64 (List.drop 0 (bys (spliceI (List.replicate 64 0) 0 b)))) else LV.any else LV.sl 1 4 0 64 none] = LV.agg [.int i64 at_, .isl 1 (bys (spliceI (List.replicate 64 0) 0 b))] := by simp (disch := first | omega | (simp; omega)) [-List.reduceReplicate]
 have f17 : 1 ≤ 1 := by omega
 have f18 : List.length (pnds p) = List.length p ∧ (List.length p + 1) * 32 ≤ 140737488355328 := by simp; omega
 have f19 : LObj.row 90 2 (pnds p ++ List.take 1 (List.drop 0 (List.set [.agg [.int i64 0, .nils]] 0 (LV.agg [.int i64 at_, .isl 1 (bys (spliceI (List.replicate 64 0) 0 b))])))) = LObj.row 90 2 (pnds (p ++ [(at_, some (spliceI (List.replicate 64 0) 0 b))])) := by simp
 have f20 : LObj.row 90 2 (List.set [.agg [.int i64 0, .nils]] 0 (LV.agg [.int i64 at_, .isl 1 (bys (spliceI (List.replicate 64 0) 0 b))])) = LObj.row 90 2 [.agg [.int i64 at_, .isl 1 (bys (spliceI (List.replicate 64 0) 0 b))]] := by simp
 have f21 : List.length (pnds (p ++ [(at_, some (spliceI (List.replicate 64 0) 0 b))])) = List.length p + 1 := by simp
 have f22 : (LV.nili, St.mk 1 [(0, LObj.box 64 [.int i64 rm, .omap i64 (List.map (·.1) (mapE m)) (List.map (·.2) (mapE m)), .own 90 2 (pnds (p ++ [(at_, some (spliceI (List.replicate 64 0) 0 b))]))])]) = (LV.nili, St.mk 1 [(0, dO rm m (p ++ [(at_, some (spliceI (List.replicate 64 0) 0 b))]))]) := by simp
 exact drn (fun h => ai (f1) <| ai (congrArg LV.bool f2) <| ai (f3) <| ai (f4) <| ai (f5) <| ai (congrArg some f6) <| ai (congrArg some f7) <| ai (f8) <| ai (f9) <| ai (f10) <| ai (f11) <| ai (f12) <| ai (congrArg some f13) <| ai (f14) <| ai (f4) <| ai (f5) <| ai (f15) <| ai (f14) <| ai (f14) <| ai (f14) <| ai (f16) <| ai (f17) <| ai (f18) <| ai (congrArg some f19) <| ai (congrArg some f20) <| ai (f21) <| f22) (.s (.a) (.s (.s (.r [.a, .f (rOf f1)]) (.a)) (.s (.s (.a) (.b false (.a))) (.s (.r [.a, .f (rOf f3)]) (.s (.s (.d [.y 16 (vOf f4), .y 17 (vOf f5), .x 2 (vOf f6), .x 0 (vOf f7)] [.a, .a, .o (vOf f8), .a, .a, .a, .a, .a, .a, .a, .a] [] [.a, .v (vOf f9) (.a)]) (.a)) (.s (.a) (.s (.r [.a, .a, .x 4 (vOf f13) (.v (vOf f12) (.q))]) (.s (.r [.a, .a, .a, .a, .a, .a, .a, .a, .z [.y 9 (vOf f14), .y 16 (vOf f4), .y 17 (vOf f5), .y 34 (vOf f15), .y 38 (vOf f14), .y 39 (vOf f14), .y 48 (vOf f14), .y 49 (vOf f16)] (.a), .x 5 (vOf f20) (.x 6 (vOf f19) (.q))]) (.a))))))))) [] .q (by kernel_rfl)
theorem write_old (n : Nat) (at_ : Int) (b : List Int) (rm : Int) (m : ML) (p : PL) (h0 : 0 ≤ at_) (h1 : at_ ≤ 1073741824) (hb : b.length ≤ 64) (hp : p.length ≤ 1000000) (ho : okP p)
  (c : Int) (hk : kget (needs m p) at_ = some (.int .i64 c)) (hc : 0 < c) :
  lrun prog C0 (lcall prog C0 (n + 20)) (n + 20) 19 [.ptr 0 0, .int .i64 at_, .isl 1 (bys b)] ⟨1, [(0, dO rm m p)]⟩ = some (.nili, ⟨1, [(0, dO rm m (p ++ [(at_, some (spliceI (List.replicate 64 0) 0 b))]))]⟩) := by
 have f1 := right_ok (n + 10) at_ h0 h1
 have f2 : decide (64 < ((bys b).length : Int)) = false := by simp; omega
 have f3 := needs_ok (n + 19) rm m p hp ho
 have f4 : LV.int i64 ((bys b).length : Int) = LV.int i64 (b.length : Int) := by simp
 have f5 : LV.bool (decide (64 < ((bys b).length : Int))) = LV.bool false := by simp; omega
 have f6 : LObj.map i64 (List.zip (mapK m) (mapV m)) = LObj.map i64 (mapE m) := by simp
 have f7 : LObj.box 64 [.int i64 rm, .map 2, .sl 2 3 0 (List.length (pnds p)) none] = LObj.box 64 [.int i64 rm, .map 2, .sl 2 3 0 (List.length p) none] := by simp
 have f8 : kget (needs m p) at_ = some (LV.int i64 c) := hk
 have f9 : decide (c = 0) = false := by simp; omega
 have f10 : lpick (decide (c = 0)) LV.any (LV.bool false) = some (LV.bool false) := by simp; omega
 have f11 : okElems true 1 (sealL (bys b)) = true := by simp
 have f12 : 64 ≤ 64 := by omega
 have f13 : LV.int i64 (↑(min (List.length (sealL (bys b))) 64) : Int) = LV.int i64 (b.length : Int) := by simp (disch := omega)
 have f14 : LObj.row 5 1 (lsplice (List.replicate 64 (LV.int IntKind.u8 0)) 0 (List.take (min (List.length (sealL (bys b))) 64) (sealL (bys b)))) = LObj.row 5 1 (bys (spliceI (List.replicate 64 0) 0 b)) := by simp (disch := omega) [-List.reduceReplicate]
 have f15 : (if 4 = 4 then if 1 = 1 ∧ 0 + 64 ≤ List.length (bys (spliceI (List.replicate 64 0) 0 b)) ∧ capLe 64 none = true then LV.isl 1 (List.take 64 (List.drop 0 (bys (spliceI (List.replicate 64 0) 0 b)))) else LV.any else LV.sl 1 4 0 64 none) = LV.isl 1 (bys (spliceI (List.replicate 64 0) 0 b)) := by simp (disch := first | omega | (simp; omega)) [-List.reduceReplicate]
 have f16 : LV.bool (decide (c = 0)) = LV.bool false := by simp; omega
 have f17 : LV.agg [.int i64 at_, if 4 = 4 then if 1 = 1 ∧ 0 + 64 ≤ List.length (bys (spliceI (List.replicate 64 0) 0 b)) ∧ capLe 64 none = true then LV.isl 1 (List.take 64 (List.drop 0 (bys (spliceI (List.replicate 64 0) 0 b)))) else LV.any else LV.sl 1 4 0 64 none] = LV.agg [.int i64 at_, .isl 1 (bys (spliceI (List.replicate 64 0) 0 b))] := by simp (disch := first | omega | (simp; omega)) [-List.reduceReplicate]
 have f18 : 1 ≤ 1 := by omega
 have f19 : List.length (pnds p) = List.length p ∧ (List.length p + 1) * 32 ≤ 140737488355328 := by simp; omega
 have f20 : LObj.row 90 2 (pnds p ++ List.take 1 (List.drop 0 (List.set [.agg [.int i64 0, .nils]] 0 (LV.agg [.int i64 at_, .isl 1 (bys (spliceI (List.replicate 64 0) 0 b))])))) = LObj.row 90 2 (pnds (p ++ [(at_, some (spliceI (List.replicate 64 0) 0 b))])) := by simp
 have f21 : LObj.row 90 2 (List.set [.agg [.int i64 0, .nils]] 0 (LV.agg [.int i64 at_, .isl 1 (bys (spliceI (List.replicate 64 0) 0 b))])) = LObj.row 90 2 [.agg [.int i64 at_, .isl 1 (bys (spliceI (List.replicate 64 0) 0 b))]] := by simp
 have f22 : List.length (pnds (p ++ [(at_, some (spliceI (List.replicate 64 0) 0 b))])) = List.length p + 1 := by simp
 have f23 : (LV.nili, St.mk 1 [(0, LObj.box 64 [.int i64 rm, .omap i64 (List.map (·.1) (mapE m)) (List.map (·.2) (mapE m)), .own 90 2 (pnds (p ++ [(at_, some (spliceI (List.replicate 64 0) 0 b))]))])]) = (LV.nili, St.mk 1 [(0, dO rm m (p ++ [(at_, some (spliceI (List.replicate 64 0) 0 b))]))]) := by simp
 exact drn (fun h => ai (f1) <| ai (congrArg LV.bool f2) <| ai (f3) <| ai (f4) <| ai (f5) <| ai (congrArg some f6) <| ai (congrArg some f7) <| ai (f8) <| ai (congrArg some f9) <| ai (congrArg some f9) <| ai (congrArg some f9) <| ai (congrArg some f9) <| ai (congrArg some f9) <| ai (congrArg some f9) <| ai (congrArg some f9) <| ai (x_map (st := (St.mk 4 [(3, LObj.row 90 2 (pnds p)), (2, LObj.map i64 (mapE m)), (0, LObj.box 64 [.int i64 rm, .map 2, .sl 2 3 0 (List.length p) none]), (1, LObj.map i64 (needs m p))])) f10) <| ai (f11) <| ai (f12) <| ai (f13) <| ai (congrArg some f14) <| ai (f15) <| ai (f4) <| ai (f5) <| ai (f16) <| ai (f16) <| ai (f15) <| ai (f15) <| ai (f15) <| ai (f17) <| ai (f18) <| ai (f19) <| ai (congrArg some f20) <| ai (congrArg some f21) <| ai (f22) <| f23) (.s (.a) (.s (.s (.r [.a, .f (rOf f1)]) (.a)) (.s (.s (.a) (.b false (.a))) (.s (.r [.a, .f (rOf f3)]) (.s (.s (.d [.y 16 (vOf f4), .y 17 (vOf f5), .x 2 (vOf f6), .x 0 (vOf f7)] [.a, .a, .o (vOf f8), .a, .a, .g false (.a), .g false (.a), .g false (.a), .g false (.a), .g false (.a), .g false (.a)] [] [.g false (.a), .t (rOf (x_map (st := (St.mk 4 [(3, LObj.row 90 2 (pnds p)), (2, LObj.map i64 (mapE m)), (0, LObj.box 64 [.int i64 rm, .map 2, .sl 2 3 0 (List.length p) none]), (1, LObj.map i64 (needs m p))])) f10))]) (.a)) (.s (.a) (.s (.r [.a, .a, .x 4 (vOf f14) (.v (vOf f13) (.q))]) (.s (.r [.a, .a, .a, .a, .a, .a, .a, .a, .z [.y 9 (vOf f15), .y 16 (vOf f4), .y 17 (vOf f5), .y 26 (vOf f16), .y 27 (vOf f16), .y 38 (vOf f15), .y 39 (vOf f15), .y 48 (vOf f15), .y 49 (vOf f17)] (.a), .x 5 (vOf f21) (.x 6 (vOf f20) (.q))]) (.a))))))))) [] .q (by kernel_rfl)
theorem loose_ok (n : Nat) (rm : Int) (m : ML) (p : PL) : lrun prog C0 (lcall prog C0 (n + 10)) (n + 10) 13 [.ptr 0 0] ⟨1, [(0, dO rm m p)]⟩ = some (.int .i64 p.length, ⟨1, [(0, dO rm m p)]⟩) := by
 have f1 : List.length (pnds p) = List.length (pnds p) := by omega
 have f2 : (LV.int i64 ((pnds p).length : Int), St.mk 1 [(0, LObj.box 64 [.int i64 rm, .omap i64 (mapK m) (mapV m), .own 90 2 (pnds p)])]) = (LV.int i64 (p.length : Int), St.mk 1 [(0, dO rm m p)]) := by simp
 exact drn (fun h => ai (f1) <| f2) (.a) [] .q (by kernel_rfl)
theorem new_ok (n : Nat) (r : Int) (h0 : 0 ≤ r) (h1 : r ≤ 1073741824) : lrun prog C0 (lcall prog C0 (n + 10)) (n + 10) 8 [.int .i64 r] ⟨0, []⟩ = some (.tup [.ptr 0 0, .nili], ⟨1, [(0, dO r [] [])]⟩) := by
 have f1 : decide (r < 0) = false := by simp; omega
 have f2 : LV.bool (if decide (r < 0) = true then true else decide (1073741824 < r)) = LV.bool false := by simp; omega
 exact drn (fun h => ai (congrArg some f1) <| ai (congrArg some f1) <| ai (f2) <| h) (.s (.a) (.s (.s (.r [.a, .a, .a, .g false (.a), .g false (.a), .v (vOf f2) (.a)]) (.a)) (.a))) [] .a (by kernel_rfl)
theorem clone_ok (n : Nat) (m : ML) : lrun prog C0 (lcall prog C0 (n + 5)) (n + 5) 41 [.map 0] ⟨1, [(0, .map .i64 (mapE m))]⟩ = some (.map 1, ⟨2, [(0, .map .i64 (mapE m)), (1, .map .i64 (mapE m))]⟩) := by
 exact drn (fun h => h) (.a) [] .a (by kernel_rfl)
abbrev aE (p : PL) (i : Int) : LEnv := [.any, .any, .any, .map 3, .any, .any, .any, .any, .any, .any, .any, .any, .any, .any,
  LV.sl 2 2 0 p.length none, .int i64 p.length, .int i64 i, .any, .any, .any,
  .any, .any, .any, .any, .any]
abbrev aS (rm : Int) (m : ML) (p : PL) (w : List (Int × LV)) : St := ⟨4, [(0, LObj.box 64 [.int i64 rm, .map 1, .sl 2 2 0 p.length none]),
    (1, LObj.map i64 (mapE m)), (2, LObj.row 90 2 (pnds p)),
    (3, LObj.map i64 w)]⟩
abbrev aX (p : PL) (i : Int) : LEnv := [.any, .any, .any, .map 3, .any, .any, .any, .any, .any, .any, .any, .any, .any, .any,
  LV.sl 2 2 0 p.length none, .int i64 p.length, .int i64 i, .bool (decide (i < p.length)), .any, .any,
  .any, .any, .any, .any, .any]
theorem after_end (n fu : Nat) (rm : Int) (m : ML) (p : PL) (w : List (Int × LV)) (i : Int) (hi : p.length ≤ i) : loopAt prog C0 (n + 40) 38 0 1 (fu + 1) (aE p i) (aS rm m p w) = some (.exit 0, aX p i, aS rm m p w) := by
 have f1 : decide (i < (p.length : Int)) = false := by simp; omega
 exact dlp (fun h => ai (congrArg LV.bool f1) <| h) (.i (.s (.a) (.s (.b false (.a)) .a)) (.a)) (by kernel_rfl)
theorem after_some (n fu : Nat) (rm : Int) (m : ML) (p : PL) (w : List (Int × LV)) (i : Int) (h0 : 0 ≤ i) (hi : i < p.length) (hp : p.length ≤ 100000) (a : Int) (b : List Int) (hb : b ≠ []) (hx : (pnds p)[i.toNat]? = some (.agg [.int .i64 a, .isl 1 (bys b)]))
  (r : LX × LEnv × St) (hr : loopAt prog C0 (n + 40) 38 0 1 fu (aE p (i + 1)) (aS rm m p (kput w a (.isl 1 (bys b)))) = some r) : loopAt prog C0 (n + 40) 38 0 1 (fu + 1) (aE p i) (aS rm m p w) = some r := by
 have f1 : decide (i < (p.length : Int)) = true := by simp; omega
 have f2 : 0 ≤ i ∧ i < (p.length : Int) := by omega
 have f3 : LV.pel 2 2 (0 + i.toNat) 0 = LV.pel 2 2 (i.toNat) 0 := by simp
 have f4 : (pnds p)[i.toNat]? = some (LV.agg [.int i64 a, .isl 1 (bys b)]) := hx
 have f5 := bput_some (n + 29) a b w hb
 have f6 : LV.int i64 (IntKind.wrap i64 (i + 1)) = LV.int i64 (i + 1) := by simp (disch := omega)
 have f7 := hr
 exact dlp (fun h => ai (congrArg LV.bool f1) <| ai (f2) <| ai (f3) <| ai (f4) <| ai (f5) <| ai (f6) <| ai (Eq.refl (tidyOf f7)) <| ai (f7) <| h) (.i (.s (.a) (.s (.b true (.a)) (.s (.k (.s (.r [.v (vOf f3) (.q), .e (rOf f4)]) (.r [.a, .a, .f (rOf f5)]))) (.r [.v (vOf f6) (.a)])))) (.h [] (eOf f7) (stOf f7) (rOf f7))) (by kernel_rfl)
theorem after_none (n fu : Nat) (rm : Int) (m : ML) (p : PL) (w : List (Int × LV)) (i : Int) (h0 : 0 ≤ i) (hi : i < p.length) (hp : p.length ≤ 100000) (a : Int) (hx : (pnds p)[i.toNat]? = some (.agg [.int .i64 a, .nils]))
  (r : LX × LEnv × St) (hr : loopAt prog C0 (n + 40) 38 0 1 fu (aE p (i + 1)) (aS rm m p (kdel w a)) = some r) : loopAt prog C0 (n + 40) 38 0 1 (fu + 1) (aE p i) (aS rm m p w) = some r := by
 have f1 : decide (i < (p.length : Int)) = true := by simp; omega
 have f2 : 0 ≤ i ∧ i < (p.length : Int) := by omega
 have f3 : LV.pel 2 2 (0 + i.toNat) 0 = LV.pel 2 2 (i.toNat) 0 := by simp
 have f4 : (pnds p)[i.toNat]? = some (LV.agg [.int i64 a, .nils]) := hx
 have f5 := bput_none (n + 29) a w
 have f6 : LV.int i64 (IntKind.wrap i64 (i + 1)) = LV.int i64 (i + 1) := by simp (disch := omega)
 have f7 := hr
 exact dlp (fun h => ai (congrArg LV.bool f1) <| ai (f2) <| ai (f3) <| ai (f4) <| ai (f5) <| ai (f6) <| ai (Eq.refl (tidyOf f7)) <| ai (f7) <| h) (.i (.s (.a) (.s (.b true (.a)) (.s (.k (.s (.r [.v (vOf f3) (.q), .e (rOf f4)]) (.r [.a, .a, .f (rOf f5)]))) (.r [.v (vOf f6) (.a)])))) (.h [] (eOf f7) (stOf f7) (rOf f7))) (by kernel_rfl)
def applyP : PL → List (Int × LV) → List (Int × LV)
 | [], w => w
 | (a, some b) :: q, w => applyP q (kput w a (.isl 1 (bys b)))
 | (a, none) :: q, w => applyP q (kdel w a)
theorem after_loop (n : Nat) (rm : Int) (m : ML) (p : PL) (hp : p.length ≤ 100000) (hb : ∀ x ∈ p, ∀ b, x.2 = some b → b ≠ []) : ∀ (q : PL) (i : Int) (w : List (Int × LV)) (fu : Nat),
  0 ≤ i → p.drop i.toNat = q → q.length < fu → loopAt prog C0 (n + 40) 38 0 1 fu (aE p i) (aS rm m p w) = some (.exit 0, aX p (i + q.length), aS rm m p (applyP q w))
 | [], i, w, fu, h0, hd, hf => by
  obtain ⟨k, rfl⟩ : ∃ k, fu = k + 1 := ⟨fu - 1, by simp at hf; omega⟩
  have : p.length ≤ i.toNat := by simpa using hd
  rw [after_end n k rm m p w i (by omega)]
  simp [applyP]
 | x :: q, i, w, fu, h0, hd, hf => by
  obtain ⟨k, rfl⟩ : ∃ k, fu = k + 1 := ⟨fu - 1, by simp at hf; omega⟩
  have hlt : i.toNat < p.length := by
   apply Classical.byContradiction; intro h
   rw [List.drop_of_length_le (by omega)] at hd; simp at hd
  have hx : p[i.toNat]? = some x := by
   have := congrArg List.head? hd
   simpa [List.head?_drop] using this
  have hd2 : p.drop (i + 1).toNat = q := by
   have e : (i + 1).toNat = i.toNat + 1 := by omega
   rw [e, ← List.drop_drop, hd]; rfl
  have ih := fun w' => after_loop n rm m p hp hb q (i + 1) w' k (by omega) hd2 (by simp at hf; omega)
  have hxl : (pnds p)[i.toNat]? = some (pnd x) := by simp only [pnds, List.getElem?_map, hx, Option.map_some]
  have hlen : i + 1 + (q.length : Int) = i + ((x :: q).length : Int) := by simp; omega
  obtain ⟨a, ob⟩ := x
  cases ob with
  | some b =>
   rw [after_some n k rm m p w i h0 (by omega) hp a b (hb (a, some b) (List.mem_of_getElem? hx) b rfl) hxl _ (ih _), hlen]
   rfl
  | none =>
   rw [after_none n k rm m p w i h0 (by omega) hp a hxl _ (ih _), hlen]
   rfl
def mput : ML → Int → List Int → ML
 | [], n, x => [(n, x)]
 | (k, v) :: l, n, x => if k = n then (n, x) :: l else if n < k then (n, x) :: (k, v) :: l else (k, v) :: mput l n x
def mdel : ML → Int → ML
 | [], _ => []
 | (k, v) :: l, n => if k = n then l else (k, v) :: mdel l n
theorem after_ok (n : Nat) (rm : Int) (m : ML) (p : PL) (hp : p.length ≤ 100000) (hn : p.length ≤ n) (hb : ∀ x ∈ p, ∀ b, x.2 = some b → b ≠ []) :
  lrun prog C0 (lcall prog C0 (n + 40)) (n + 40) 38 [.ptr 0 0] ⟨1, [(0, dO rm m p)]⟩ = some (.map 1, ⟨2, [(0, dO rm m p), (1, .map .i64 (applyP p (mapE m)))]⟩) := by
 have L := after_loop n rm m p hp hb p 0
 have f1 : LObj.map i64 (List.zip (mapK m) (mapV m)) = LObj.map i64 (mapE m) := by simp
 have f2 := clone_ok (n + 34) m
 have f3 : LV.sl 2 2 0 (List.length (pnds p)) none = LV.sl 2 2 0 (List.length p) none := by simp
 have f4 : LV.int i64 ((pnds p).length : Int) = LV.int i64 (p.length : Int) := by simp
 have f5 : LObj.box 64 [.int i64 rm, .map 1, .sl 2 2 0 (List.length (pnds p)) none] = LObj.box 64 [.int i64 rm, .map 1, .sl 2 2 0 (List.length p) none] := by simp
 have f6 := L (mapE m) (n + 40) (by omega) (by simp) (by omega)
 have f7 : List.length (pnds p) = List.length p := by simp
 have f8 : (LV.map 1, St.mk 2 [(0, LObj.box 64 [.int i64 rm, .omap i64 (List.map (·.1) (mapE m)) (List.map (·.2) (mapE m)), .own 90 2 (pnds p)]), (1, LObj.map i64 (applyP p (mapE m)))]) = (LV.map 1, St.mk 2 [(0, dO rm m p), (1, LObj.map i64 (applyP p (mapE m)))]) := by simp
 exact drn (fun h => ai (congrArg some f1) <| ai (f2) <| ai (f3) <| ai (f4) <| ai (congrArg some f5) <| ai (Eq.refl (tidyOf f6)) <| ai (f6) <| ai (f7) <| f8) (.s (.a) (.s (.r [.a, .a, .a, .x 1 (vOf f1) (.a), .f (rOf f2)]) (.s (.s (.a) (.k (.l (.h [.y 14 (vOf f3), .y 15 (vOf f4), .x 0 (vOf f5)] (eOf f6) (stOf f6) (rOf f6))))) (.a)))) [] .q (by kernel_rfl)
theorem dsync_ok (n : Nat) (rm : Int) (m m' : ML) (p : PL) (hp : p.length ≤ 100000) (hn : p.length ≤ n) (hb : ∀ x ∈ p, ∀ b, x.2 = some b → b ≠ [])
  (hm : applyP p (mapE m) = mapE m') :
  lrun prog C0 (lcall prog C0 (n + 41)) (n + 41) 17 [.ptr 0 0] ⟨1, [(0, dO rm m p)]⟩ = some (.tup [], ⟨1, [(0, dO rm m' [])]⟩) := by
 have A := after_ok n rm m p hp hn hb
 have f1 := A
 have f2 : (LV.tup [], St.mk 1 [(0, LObj.box 64 [.int i64 rm, .omap i64 (List.map (·.1) (applyP p (mapE m))) (List.map (·.2) (applyP p (mapE m))), .own 90 2 []])]) = (LV.tup [], St.mk 1 [(0, dO rm m' [])]) := by simp (disch := omega) [-List.reduceReplicate, hp, hn, hm, A]
 exact drn (fun h => ai (f1) <| f2) (.s (.r [.a, .a, .f (rOf f1)]) (.a)) [] .q (by kernel_rfl)
def lastW (at_ : Int) : PL → Option (Option (List Int))
 | [] => none
 | (a, b) :: l => match lastW at_ l with
  | some x => some x
  | none => if a = at_ then some b else none
def mget : ML → Int → Option (List Int)
 | [], _ => none
 | (k, v) :: l, n => if k = n then some v else mget l n
def rd (m : ML) (p : PL) (at_ : Int) : List Int :=
 match lastW at_ p with
 | some (some b) => blk b
 | some none => blk []
 | none => match mget m at_ with
  | some b => blk b
  | none => blk []
theorem lastOf_pnds (at_ : Int) : ∀ p, lastOf at_ (pnds p) = (lastW at_ p).map fun o => match o with | some b => LV.isl 1 (bys b) | none => .nils
 | [] => rfl
 | (a, ob) :: p => by
  have ih := lastOf_pnds at_ p
  show lastOf at_ (pnd (a, ob) :: pnds p) = _
  simp only [pnd, lastOf, ih, lastW]
  cases lastW at_ p with
  | some x => rfl
  | none =>
   simp only [Option.map_none]
   split
   ·cases ob <;> rfl
   ·rfl
theorem kget_mapE (at_ : Int) : ∀ m, kget (mapE m) at_ = (mget m at_).map fun b => LV.isl 1 (bys b)
 | [] => rfl
 | (k, b) :: m => by
  have ih := kget_mapE at_ m
  show kget ((k, .isl 1 (bys b)) :: mapE m) at_ = _
  simp only [kget, mget, ih]
  split <;> rfl
theorem blk_padS (b : List Int) : (b ++ List.replicate 64 0).take 64 = blk b := by
 unfold blk spliceI
 rcases Nat.lt_or_ge b.length 64 with h | h
 ·rw [Nat.min_eq_left (by omega), List.take_of_length_le (Nat.le_refl _), List.take_append, List.take_of_length_le (by omega), List.take_replicate, List.take_zero, List.nil_append, Nat.zero_add, List.drop_replicate, Nat.min_eq_left (by omega)]
 ·rw [Nat.min_eq_right h, List.take_append_of_le_length h, List.take_zero, List.nil_append, Nat.zero_add, List.length_take, Nat.min_eq_left h, List.drop_replicate]
  simp
theorem pad64_bys (b : List Int) : pad64 (.isl 1 (bys b)) = .isl 1 (bys (blk b)) := by
 rw [← blk_padS]
 simp [pad64, bys]
theorem pad64_nils : pad64 .nils = .isl 1 (bys (blk [])) := by
 rw [← blk_padS]
 simp [pad64, bys]
theorem xRead_ok (rm : Int) (m : ML) (p : PL) (at_ : Int) (h0 : 0 ≤ at_) (h1 : at_ ≤ 1073741824) (hp : p.length ≤ 1000000) (ho : okP p) :
  xRead [.ptr 0 0, .int .i64 at_] ⟨1, [(0, dO rm m p)]⟩ = some (.tup [.isl 1 (bys (rd m p at_)), .nili], ⟨1, [(0, dO rm m p)]⟩) := by
 have g1 := okW_pnds ho
 have g2 : (pnds p).length ≤ 1048576 := by simp; omega
 simp only [xRead, St.look, olook, if_true, g1, g2, okBs_mapV, and_self]
 rw [if_neg (by omega), lastOf_pnds, zip_mapKV, kget_mapE]
 unfold rd
 cases lastW at_ p with
 | some o => cases o <;> simp only [Option.map_some, pad64_bys, pad64_nils]
 | none =>
  simp only [Option.map_none]
  cases mget m at_ <;> simp only [Option.map_some, Option.map_none, pad64_bys, pad64_nils]
theorem dread_ok (n : Nat) (rm : Int) (m : ML) (p : PL) (at_ : Int) (h0 : 0 ≤ at_) (h1 : at_ ≤ 1073741824) (hp : p.length ≤ 1000000) (ho : okP p) :
  lrun prog C0 (lcall prog C0 n) n 18 [.ptr 0 0, .int .i64 at_] ⟨1, [(0, dO rm m p)]⟩ = some (.tup [.isl 1 (bys (rd m p at_)), .nili], ⟨1, [(0, dO rm m p)]⟩) := by
 have X := xRead_ok rm m p at_ h0 h1 hp ho
 exact x_runx rfl X (by kernel_rfl)
theorem rd_length (m : ML) (p : PL) (at_ : Int) : (rd m p at_).length = 64 := by
 unfold rd
 repeat' split
 all_goals simp
def ints (b : List Int) : List LV := b.map (LV.int .i64)
@[simp] theorem ints_length (b : List Int) : (ints b).length = b.length := by simp [ints]
@[simp high] theorem ints_get (b : List Int) (i : Nat) (h : i < b.length) : (ints b)[i]? = some (.int .i64 (atI b i)) := by simp [ints, h, atI]
@[simp] theorem pnds_one (x : Int × Option (List Int)) : pnds [x] = [pnd x] := rfl
@[simp] theorem pnd_some (a : Int) (b : List Int) : pnd (a, some b) = .agg [.int .i64 a, .isl 1 (bys b)] := rfl
theorem crash_nil (n : Nat) (rm : Int) (m : ML) (ks : List Int) (cut : Int) :
  lrun prog C0 (lcall prog C0 (n + 60)) (n + 60) 20 [.ptr 0 0, .isl 1 (ints ks), .int .i64 cut] ⟨1, [(0, dO rm m [])]⟩ = some (.tup [], ⟨1, [(0, dO rm m [])]⟩) := by
 have f1 : LObj.map i64 (List.zip (mapK m) (mapV m)) = LObj.map i64 (mapE m) := by simp
 have f2 := clone_ok (n + 54) m
 have f3 : (LV.tup [], St.mk 1 [(0, LObj.box 64 [.int i64 rm, .omap i64 (List.map (·.1) (mapE m)) (List.map (·.2) (mapE m)), .own 90 2 []])]) = (LV.tup [], St.mk 1 [(0, dO rm m [])]) := by simp
 exact drn (fun h => ai (congrArg some f1) <| ai (f2) <| f3) (.s (.a) (.s (.a) (.s (.r [.a, .a, .a, .x 2 (vOf f1) (.a), .f (rOf f2)]) (.a)))) [] .q (by kernel_rfl)
@[simp] theorem lsplice_none (l : List LV) : lsplice l 0 [] = l := by simp [lsplice]
theorem crash_torn0 (n : Nat) (rm : Int) (m m' : ML) (a : Int) (b : List Int) (hb : b.length = 64) (ks : List Int) (hk : 0 < ks.length) (hk2 : ¬ atI ks 0 = 0) (cut : Int) (h0 : 0 ≤ cut) (h1 : cut < 64) (hg : kget (mapE m) a = none)
  (hm : kput (mapE m) a (.isl 1 (bys (spliceI (List.replicate 64 0) 0 (b.take cut.toNat)))) = mapE m') :
  lrun prog C0 (lcall prog C0 (n + 60)) (n + 60) 20 [.ptr 0 0, .isl 1 (ints ks), .int .i64 cut] ⟨1, [(0, dO rm m [(a, some b)])]⟩ = some (.tup [], ⟨1, [(0, dO rm m' [])]⟩) := by
 have hb2 : b ≠ [] := by intro h; subst h; simp at hb
 have f1 : decide (0 < ((ints ks).length : Int)) = true := by simp; omega
 have f2 : (ints ks)[0]? = some (LV.int i64 (atI ks 0)) := by simp (disch := omega)
 have f3 : (0 : Int) ≤ (0 : Int) ∧ (0 : Int) < ((ints ks).length : Int) := by simp; omega
 have f4 : LObj.row 90 2 (pnds [(a, some b)]) = LObj.row 90 2 [.agg [.int i64 a, .isl 1 (bys b)]] := by simp
 have f5 : LV.bool (if decide (0 < ((ints ks).length : Int)) = true then !decide (atI ks 0 = 0) else false) = LV.bool true := by simp; omega
 have f6 : LObj.map i64 (List.zip (mapK m) (mapV m)) = LObj.map i64 (mapE m) := by simp
 have f7 := clone_ok (n + 54) m
 have f8 : LV.bool (if false = true then true else decide (atI ks 0 = 0)) = LV.bool false := by simp; omega
 have f9 : List.isEmpty (bys b) = false := by simp; omega
 have f10 : LV.bool (if true = true then decide (0 ≤ cut) else false) = LV.bool true := by simp; omega
 have f11 : LV.bool (if true = true then decide (cut < 64) else false) = LV.bool true := by simp; omega
 have f12 : kget (mapE m) a = none := hg
 have f13 : lrun prog C0 (lcall prog C0 (n + 59)) (n + 59) 35 [.nils] (St.mk 0 []) = some (LV.sl 1 0 0 64 none, St.mk 1 [(0, LObj.row 5 1 (lsplice (List.replicate 64 (LV.int IntKind.u8 0)) 0 []))]) := by kernel_rfl
 have f14 : (0 : Int) ≤ (0 : Int) ∧ (0 : Int) ≤ Option.getD (some cut) ((bys b).length : Int) ∧ Option.getD (some cut) ((bys b).length : Int) ≤ ((bys b).length : Int) := by simp; omega
 have f15 : LV.isl 1 (List.drop 0 (List.take (Int.toNat (Option.getD (some cut) ((bys b).length : Int))) (bys b))) = LV.isl 1 (bys (List.take (cut.toNat) b)) := by simp
 have f16 : LObj.row 5 1 (lsplice (List.replicate 64 (LV.int IntKind.u8 0)) 0 []) = LObj.row 5 1 (bys (List.replicate 64 0)) := by simp
 have f17 : okElems true 1 (sealL (bys (List.take (cut.toNat) b))) = true := by simp
 have f18 : 64 ≤ 64 := by omega
 have f19 : LV.int i64 (↑(min (List.length (sealL (bys (List.take (cut.toNat) b)))) 64) : Int) = LV.int i64 (max cut 0) := by simp (disch := omega)
 have f20 : LObj.row 5 1 (lsplice (bys (List.replicate 64 0)) 0 (List.take (min (List.length (sealL (bys (List.take (cut.toNat) b)))) 64) (sealL (bys (List.take (cut.toNat) b))))) = LObj.row 5 1 (bys (spliceI (List.replicate 64 0) 0 (List.take (cut.toNat) b))) := by simp (disch := first | omega | (simp; omega)) [-List.reduceReplicate]
 have f21 : LV.agg [.int i64 a, if 1 = 1 then if 1 = 1 ∧ 0 + 64 ≤ List.length (bys (spliceI (List.replicate 64 0) 0 (List.take (cut.toNat) b))) ∧ capLe 64 none = true then LV.isl 1 (List.take 64 (List.drop 0 (bys (spliceI (List.replicate 64 0) 0 (List.take (cut.toNat) b))))) else LV.any else LV.sl 1 1 0 64 none] = LV.agg [.int i64 a, .isl 1 (bys (spliceI (List.replicate 64 0) 0 (List.take (cut.toNat) b)))] := by simp (disch := first | omega | (simp; omega)) [-List.reduceReplicate]
 have f22 : (if 1 = 1 then if 1 = 1 ∧ 0 + 64 ≤ List.length (bys (spliceI (List.replicate 64 0) 0 (List.take (cut.toNat) b))) ∧ capLe 64 none = true then LV.isl 1 (List.take 64 (List.drop 0 (bys (spliceI (List.replicate 64 0) 0 (List.take (cut.toNat) b))))) else LV.any else LV.sl 1 1 0 64 none) = LV.isl 1 (bys (spliceI (List.replicate 64 0) 0 (List.take (cut.toNat) b))) := by simp (disch := first | omega | (simp; omega)) [-List.reduceReplicate]
 have f23 : LObj.box 90 [.int i64 a, if 1 = 1 then if 1 = 1 ∧ 0 + 64 ≤ List.length (bys (spliceI (List.replicate 64 0) 0 (List.take (cut.toNat) b))) ∧ capLe 64 none = true then LV.isl 1 (List.take 64 (List.drop 0 (bys (spliceI (List.replicate 64 0) 0 (List.take (cut.toNat) b))))) else LV.any else LV.sl 1 1 0 64 none] = LObj.box 90 [.int i64 a, .isl 1 (bys (spliceI (List.replicate 64 0) 0 (List.take (cut.toNat) b)))] := by simp (disch := first | omega | (simp; omega)) [-List.reduceReplicate]
 have f24 : lrun prog C0 (lcall prog C0 (n + 59)) (n + 59) 42 [.map 0, .agg [.int i64 a, .sl 1 1 0 64 none]] (St.mk 2 [(0, LObj.map i64 (mapE m)), (1, LObj.row 5 1 (bys (spliceI (List.replicate 64 0) 0 (List.take (cut.toNat) b))))]) = some (LV.tup [], St.mk 2 [(0, LObj.map i64 (kput (mapE m) a (LV.isl 1 (bys (spliceI (List.replicate 64 0) 0 (List.take (cut.toNat) b))))))]) := drn (fun h => ai (f21) <| ai (f22) <| ai (f22) <| ai (congrArg some f23) <| h) (.s (.a) (.s (.a) (.r [.a, .a, .a, .a, .a, .z [.y 1 (vOf f21), .y 5 (vOf f22), .y 14 (vOf f22), .x 2 (vOf f23)] (.a)]))) [] .a (by kernel_rfl)
 have f25 : (LV.tup [], St.mk 1 [(0, LObj.box 64 [.int i64 rm, .omap i64 (List.map (·.1) (kput (mapE m) a (LV.isl 1 (bys (spliceI (List.replicate 64 0) 0 (List.take (cut.toNat) b)))))) (List.map (·.2) (kput (mapE m) a (LV.isl 1 (bys (spliceI (List.replicate 64 0) 0 (List.take (cut.toNat) b)))))), .own 90 2 []])]) = (LV.tup [], St.mk 1 [(0, dO rm m' [])]) := by simp (disch := omega) [-List.reduceReplicate, hb, hk, hk2, h0, h1, hg, hm, hb2]
 exact drn (fun h => ai (congrArg some f1) <| ai (congrArg some f1) <| ai (congrArg some f1) <| ai (f3) <| ai (f2) <| ai (congrArg some f4) <| ai (congrArg some f1) <| ai (congrArg some f1) <| ai (f5) <| ai (congrArg some f6) <| ai (f7) <| ai (f3) <| ai (f2) <| ai (f8) <| ai (f9) <| ai (f10) <| ai (f11) <| ai (f12) <| ai (f13) <| ai (f14) <| ai (f15) <| ai (congrArg some f16) <| ai (f17) <| ai (f18) <| ai (f19) <| ai (congrArg some f20) <| ai (f24) <| f25) (.s (.a) (.s (.s (.a) (.k (.l (.i (.s (.a) (.s (.a) (.s (.k (.s (.a) (.s (.r [.a, .a, .a, .a, .a, .g true (.a), .g true (.a), .g true (.x 1 (vOf f4) (.e (rOf f2))), .g true (.a), .g true (.a), .v (vOf f5) (.a)]) (.a)))) (.a)))) (.a))))) (.s (.r [.a, .a, .a, .x 2 (vOf f6) (.a), .f (rOf f7)]) (.s (.s (.a) (.k (.l (.i (.s (.a) (.s (.a) (.s (.k (.s (.a) (.s (.s (.r [.a, .a, .a, .a, .a, .a, .e (rOf f2), .a, .a, .v (vOf f8) (.a)]) (.a)) (.s (.s (.r [.a, .a, .a, .a, .a, .a, .q, .a, .a, .a, .a, .v (vOf f10) (.a), .a, .a, .a, .v (vOf f11) (.a)]) (.c (.s (.r [.a, .a, .a, .o (vOf f12), .f (rOf f13)]) (.s (.r [.a, .a, .a, .a, .x 5 (vOf f16) (.v (vOf f15) (.q)), .x 5 (vOf f20) (.v (vOf f19) (.q))]) (.a))))) (.r [.a, .a, .f (rOf f24)]))))) (.a)))) (.a))))) (.a))))) [] .q (by kernel_rfl)
def keysOk (l : List (Int × LV)) : Prop := ascB (l.map (·.1)) = true ∧ (∀ x ∈ l, -9223372036854775808 ≤ x.1 ∧ x.1 ≤ 9223372036854775807) ∧ l.length ≤ 1000000
theorem sorted_ok (n : Nat) (l : List (Int × LV)) (h : keysOk l) :
  lrun prog C0 (lcall prog C0 n) n 33 [.fn 55 [] [.ptr 0 0]] ⟨2, [(0, .box 61 [.map 1]), (1, .map .i64 l)]⟩ = some (.isl 1 (ints (l.map (·.1))), ⟨2, [(0, .box 61 [.map 1]), (1, .map .i64 l)]⟩) := by
 obtain ⟨ha, hw, hn⟩ := h
 have hz3 : (l.all fun x => decide (-9223372036854775808 ≤ x.1) && decide (x.1 ≤ 9223372036854775807)) = true := by
  rw [List.all_eq_true]
  intro x hx
  have := hw x hx
  simp [this.1, this.2]
 have X : xSorted [.fn 55 [] [.ptr 0 0]] ⟨2, [(0, .box 61 [.map 1]), (1, .map .i64 l)]⟩ = some (.isl 1 (ints (l.map (·.1))), ⟨2, [(0, .box 61 [.map 1]), (1, .map .i64 l)]⟩) := by
  show (if (55 : Nat) = 55 ∧ ascB (l.map (·.1)) = true ∧ (l.all fun x => decide (-9223372036854775808 ≤ x.1) && decide (x.1 ≤ 9223372036854775807)) = true ∧ l.length ≤ 1000000 then some (LV.isl 1 ((l.map (·.1)).map (LV.int .i64)), (⟨2, [(0, .box 61 [.map 1]), (1, .map .i64 l)]⟩ : St)) else none) = _
  rw [if_pos ⟨rfl, ha, hz3, hn⟩]
  rfl
 exact x_runx rfl X (by kernel_rfl)
abbrev ceE (ks : List Int) (l : LV) (i : Int) : LEnv := [.ptr 0 0, .any, .any, l, .any, .any, .any, .any, .any, .any, .any,
  LV.isl 1 (ints ks), .int i64 ks.length, .int i64 i, .any, .any, .any, .any, .any, .any, .any,
  .any, .any, .any, .any, .any, .any, .any, .any, .any, .any]
abbrev ceS (rm : Int) (m : ML) (p : PL) : St := ⟨2, [(0, LObj.box 64 [.int i64 rm, .map 1, .own 90 2 (pnds p)]), (1, LObj.map i64 (mapE m))]⟩
theorem cl_step0 (n fu : Nat) (rm : Int) (m : ML) (p : PL) (ks : List Int) (hl : ks.length ≤ 1000000) (hk : 0 < ks.length) (b : List Int) (hg : kget (mapE m) (atI ks 0) = some (.isl 1 (bys b))) (r : LX × LEnv × St)
  (hr : loopAt prog C0 (n + 60) 12 0 1 fu (ceE ks (.sl 2 2 0 1 none) 1) ⟨3, [(0, LObj.box 64 [.int i64 rm, .map 1, .own 90 2 (pnds p)]), (1, LObj.map i64 (mapE m)), (2, .row 58 2 [.agg [.int .i64 (atI ks 0), .isl 1 (bys (blk b))]])]⟩ = some r) :
  loopAt prog C0 (n + 60) 12 0 1 (fu + 1) (ceE ks .nils 0) (ceS rm m p) = some r := by
 have f1 : decide (0 < (ks.length : Int)) = true := by simp; omega
 have f2 : (ints ks)[0]? = some (LV.int i64 (atI ks 0)) := by simp (disch := omega)
 have f3 : (0 : Int) ≤ (0 : Int) ∧ (0 : Int) < ((ints ks).length : Int) := by simp; omega
 have f4 : kget (mapE m) (atI ks 0) = some (LV.isl 1 (bys b)) := hg
 have f5 := whole_ok (n + 50) b
 have f6 : LV.bool (decide (0 < (ks.length : Int))) = LV.bool true := by simp; omega
 have f7 : (if 2 = 2 then if 1 = 1 ∧ 0 + 64 ≤ List.length (bys (blk b)) ∧ capLe 64 none = true then LV.isl 1 (List.take 64 (List.drop 0 (bys (blk b)))) else LV.any else LV.sl 1 2 0 64 none) = LV.isl 1 (bys (blk b)) := by simp
 have f8 : LV.agg [.int i64 (atI ks 0), if 2 = 2 then if 1 = 1 ∧ 0 + 64 ≤ List.length (bys (blk b)) ∧ capLe 64 none = true then LV.isl 1 (List.take 64 (List.drop 0 (bys (blk b)))) else LV.any else LV.sl 1 2 0 64 none] = LV.agg [.int i64 (atI ks 0), .isl 1 (bys (blk b))] := by simp
 have f9 : LObj.row 58 2 (List.take 1 (List.drop 0 (List.set [.agg [.int i64 0, .nils]] 0 (LV.agg [.int i64 (atI ks 0), .isl 1 (bys (blk b))])))) = LObj.row 58 2 [.agg [.int i64 (atI ks 0), .isl 1 (bys (blk b))]] := by simp
 have f10 := hr
 exact dlp (fun h => ai (congrArg LV.bool f1) <| ai (f3) <| ai (f2) <| ai (f4) <| ai (f5) <| ai (f6) <| ai (f7) <| ai (f8) <| ai (congrArg some f9) <| ai (Eq.refl (tidyOf f10)) <| ai (f10) <| h) (.i (.s (.a) (.s (.b true (.a)) (.s (.k (.s (.r [.e (rOf f2)]) (.r [.a, .a, .a, .a, .a, .a, .a, .o (vOf f4), .f (rOf f5), .a, .z [.y 14 (vOf f6), .y 25 (vOf f7), .y 26 (vOf f8)] (.a)]))) (.a)))) (.h [.x 2 (vOf f9)] (eOf f10) (stOf f10) (rOf f10))) (by kernel_rfl)
abbrev ceT (rm : Int) (m : ML) (p : PL) (cs : List LV) : St := ⟨3, [(0, LObj.box 64 [.int i64 rm, .map 1, .own 90 2 (pnds p)]), (1, LObj.map i64 (mapE m)), (2, .row 58 2 cs)]⟩
theorem cl_step (n fu : Nat) (rm : Int) (m : ML) (p : PL) (ks : List Int) (hl : ks.length ≤ 1000000) (k : Nat) (h0 : 0 < k) (hk : k < ks.length) (b : List Int) (hg : kget (mapE m) (atI ks k) = some (.isl 1 (bys b))) (cs : List LV) (hcs : cs.length = k) (r : LX × LEnv × St)
  (hr : loopAt prog C0 (n + 60) 12 0 1 fu (ceE ks (.sl 2 2 0 (k + 1) none) ((k : Int) + 1)) (ceT rm m p (cs ++ [.agg [.int .i64 (atI ks k), .isl 1 (bys (blk b))]])) = some r) :
  loopAt prog C0 (n + 60) 12 0 1 (fu + 1) (ceE ks (.sl 2 2 0 k none) k) (ceT rm m p cs) = some r := by
 have e1 : (ints ks)[k]? = some (.int .i64 (atI ks k)) := by simp [hk]
 have f1 : decide ((↑k : Int) < (ks.length : Int)) = true := by simp; omega
 have f2 : (ints ks)[Int.toNat (↑k : Int)]? = some (LV.int i64 (atI ks k)) := by simp (disch := omega)
 have f3 : 0 ≤ (↑k : Int) ∧ (↑k : Int) < ((ints ks).length : Int) := by simp; omega
 have f4 : kget (mapE m) (atI ks k) = some (LV.isl 1 (bys b)) := hg
 have f5 := whole_ok (n + 50) b
 have f6 : LV.bool (decide ((↑k : Int) < (ks.length : Int))) = LV.bool true := by simp; omega
 have f7 : (if 3 = 3 then if 1 = 1 ∧ 0 + 64 ≤ List.length (bys (blk b)) ∧ capLe 64 none = true then LV.isl 1 (List.take 64 (List.drop 0 (bys (blk b)))) else LV.any else LV.sl 1 3 0 64 none) = LV.isl 1 (bys (blk b)) := by simp
 have f8 : LV.agg [.int i64 (atI ks k), if 3 = 3 then if 1 = 1 ∧ 0 + 64 ≤ List.length (bys (blk b)) ∧ capLe 64 none = true then LV.isl 1 (List.take 64 (List.drop 0 (bys (blk b)))) else LV.any else LV.sl 1 3 0 64 none] = LV.agg [.int i64 (atI ks k), .isl 1 (bys (blk b))] := by simp
 have f9 : 1 ≤ 1 := by omega
 have f10 : List.length cs = k ∧ (k + 1) * 32 ≤ 140737488355328 := by omega
 have f11 : LObj.row 58 2 (cs ++ List.take 1 (List.drop 0 (List.set [.agg [.int i64 0, .nils]] 0 (LV.agg [.int i64 (atI ks k), .isl 1 (bys (blk b))])))) = LObj.row 58 2 (cs ++ [.agg [.int i64 (atI ks k), .isl 1 (bys (blk b))]]) := by simp
 have f12 : LObj.row 58 2 (List.set [.agg [.int i64 0, .nils]] 0 (LV.agg [.int i64 (atI ks k), .isl 1 (bys (blk b))])) = LObj.row 58 2 [.agg [.int i64 (atI ks k), .isl 1 (bys (blk b))]] := by simp
 have f13 : LV.int i64 (IntKind.wrap i64 ((↑k : Int) + 1)) = LV.int i64 ((↑k : Int) + 1) := by simp (disch := omega)
 have f14 := hr
 exact dlp (fun h => ai (congrArg LV.bool f1) <| ai (f3) <| ai (f2) <| ai (f4) <| ai (f5) <| ai (f6) <| ai (f7) <| ai (f8) <| ai (f9) <| ai (f10) <| ai (congrArg some f11) <| ai (congrArg some f12) <| ai (f13) <| ai (Eq.refl (tidyOf f14)) <| ai (f14) <| h) (.i (.s (.a) (.s (.b true (.a)) (.s (.k (.s (.r [.e (rOf f2)]) (.r [.a, .a, .a, .a, .a, .a, .a, .o (vOf f4), .f (rOf f5), .a, .z [.y 14 (vOf f6), .y 25 (vOf f7), .y 26 (vOf f8)] (.a), .x 4 (vOf f12) (.x 5 (vOf f11) (.q))]))) (.r [.v (vOf f13) (.a)])))) (.h [] (eOf f14) (stOf f14) (rOf f14))) (by kernel_rfl)
abbrev ceX (ks : List Int) (l : LV) (i : Int) : LEnv := [.ptr 0 0, .any, .any, l, .any, .any, .any, .any, .any, .any, .any,
  LV.isl 1 (ints ks), .int i64 ks.length, .int i64 i, .bool (decide (i < ks.length)), .any, .any, .any, .any, .any, .any,
  .any, .any, .any, .any, .any, .any, .any, .any, .any, .any]
theorem cl_end (n fu : Nat) (rm : Int) (m : ML) (p : PL) (ks : List Int) (hl : ks.length ≤ 1000000) (k : Nat) (h0 : 0 < k) (hk : ks.length ≤ k) (cs : List LV) :
  loopAt prog C0 (n + 60) 12 0 1 (fu + 1) (ceE ks (.sl 2 2 0 k none) k) (ceT rm m p cs) = some (.exit 0, ceX ks (.sl 2 2 0 k none) k, ceT rm m p cs) := by
 have f1 : decide ((↑k : Int) < (ks.length : Int)) = false := by simp; omega
 exact dlp (fun h => ai (congrArg LV.bool f1) <| h) (.i (.s (.a) (.s (.b false (.a)) .a)) (.a)) (by kernel_rfl)
def cellL (x : Int × List Int) : LV := .agg [.int .i64 x.1, .isl 1 (bys (blk x.2))]
def cellsL (m : ML) : List LV := m.map cellL
@[simp] theorem cellsL_length (m : ML) : (cellsL m).length = m.length := by simp [cellsL]
theorem cells_thru (n : Nat) (rm : Int) (m : ML) (p : PL) (ho : keysOk (mapE m)) (h0 : 0 < m.length) (k : Nat) (hk : k = m.length)
  (L : loopAt prog C0 (n + 60) 12 0 1 (n + 60) (ceE (mapK m) .nils 0) (ceS rm m p) = some (.exit 0, ceX (mapK m) (.sl 2 2 0 k none) k, ceT rm m p (cellsL m))) :
  lrun prog C0 (lcall prog C0 (n + 60)) (n + 60) 12 [.ptr 0 0] ⟨1, [(0, dO rm m p)]⟩ = some (.isl 2 (cellsL m), ⟨1, [(0, dO rm m p)]⟩) := by
 have S := fun n => sorted_ok n (mapE m) ho
 have hE : (cellsL m).take m.length = cellsL m := List.take_of_length_le (by simp)
 have f1 : LObj.map i64 (List.zip (mapK m) (mapV m)) = LObj.map i64 (mapE m) := by simp
 have f2 := S (n + 59)
 have f3 : LV.isl 1 (ints (List.map (·.1) (mapE m))) = LV.isl 1 (ints (mapK m)) := by simp
 have f4 : LV.int i64 ((ints (mapK m)).length : Int) = LV.int i64 ((mapK m).length : Int) := by simp
 have f5 := L
 have f6 : (if 2 = 2 then if 2 = 2 ∧ 0 + k ≤ List.length (cellsL m) ∧ capLe k none = true then LV.isl 2 (List.take k (List.drop 0 (cellsL m))) else LV.any else LV.sl 2 2 0 k none) = LV.isl 2 (cellsL m) := by simp (disch := omega) [-List.reduceReplicate, ho, h0, hk, L, S, hE]
 have f7 : (LV.isl 2 (cellsL m), St.mk 1 [(0, LObj.box 64 [.int i64 rm, .omap i64 (List.map (·.1) (mapE m)) (List.map (·.2) (mapE m)), .own 90 2 (pnds p)])]) = (LV.isl 2 (cellsL m), St.mk 1 [(0, dO rm m p)]) := by simp
 exact drn (fun h => ai (congrArg some f1) <| ai (f2) <| ai (f3) <| ai (f4) <| ai (Eq.refl (tidyOf f5)) <| ai (f5) <| ai (f6) <| f7) (.s (.a) (.s (.a) (.s (.s (.r [.a, .a, .a, .x 1 (vOf f1) (.a), .a, .v (vOf f3) (.f (rOf f2))]) (.k (.l (.h [.y 12 (vOf f4)] (eOf f5) (stOf f5) (rOf f5))))) (.a)))) [.y 0 (vOf f6)] .q (by kernel_rfl)
theorem cells_none (n : Nat) (rm : Int) (p : PL) :
  lrun prog C0 (lcall prog C0 (n + 60)) (n + 60) 12 [.ptr 0 0] ⟨1, [(0, dO rm [] p)]⟩ = some (.isl 2 [], ⟨1, [(0, dO rm [] p)]⟩) := by
 have S : ∀ n, lrun prog C0 (lcall prog C0 n) n 33 [.fn 55 [] [.ptr 0 0]] ⟨2, [(0, .box 61 [.map 1]), (1, .map .i64 [])]⟩ = some (.isl 1 [], ⟨2, [(0, .box 61 [.map 1]), (1, .map .i64 [])]⟩) := fun n => sorted_ok n [] ⟨rfl, by simp, by simp⟩
 have f1 := S (n + 59)
 exact drn (fun h => ai (f1) <| h) (.s (.a) (.s (.a) (.s (.s (.r [.a, .a, .a, .a, .a, .f (rOf f1)]) (.a)) (.a)))) [] .a (by kernel_rfl)
theorem ascB_lt : ∀ {l : List Int}, ascB l = true → l.Pairwise (fun a b => a < b)
 | [], _ => .nil
 | [_], _ => .cons (by simp) .nil
 | a :: b :: l, h => by
  simp only [ascB, Bool.and_eq_true, decide_eq_true_eq] at h
  have ih := ascB_lt h.2
  refine .cons (fun c hc => ?_) ih
  rcases List.mem_cons.1 hc with rfl | hc
  ·omega
  ·have := (List.pairwise_cons.1 ih).1 c hc
   omega
theorem mget_at : ∀ {m : ML} {k : Nat} {a : Int} {b : List Int}, ascB (mapK m) = true → m[k]? = some (a, b) → mget m a = some b
 | [], _, _, _, _, h => by simp at h
 | (c, d) :: m, 0, a, b, _, h => by
  have h : (c, d) = (a, b) := by simpa using h
  cases h
  simp [mget]
 | (c, d) :: m, k + 1, a, b, ha, h => by
  have h : m[k]? = some (a, b) := by simpa using h
  have hp := ascB_lt ha
  have hp : (c :: mapK m).Pairwise (fun a b => a < b) := hp
  have hlt : c < a := (List.pairwise_cons.1 hp).1 a (List.mem_map.2 ⟨(a, b), List.mem_of_getElem? h, rfl⟩)
  have ha2 : ascB (mapK m) = true := by
   cases m with
   | nil => rfl
   | cons x m =>
    have ha : (decide (c < x.1) && ascB (mapK (x :: m))) = true := ha
    simp only [Bool.and_eq_true] at ha
    exact ha.2
  have ih := mget_at ha2 h
  have : ¬ c = a := by omega
  simp [mget, this, ih]
theorem keysOk_asc {m : ML} (h : keysOk (mapE m)) : ascB (mapK m) = true := by
 have := h.1
 rwa [mapE_fst] at this
theorem cells_loop (n : Nat) (rm : Int) (m : ML) (p : PL) (ho : keysOk (mapE m)) : ∀ (q k fu : Nat), 0 < k → k + q = m.length → q < fu →
  loopAt prog C0 (n + 60) 12 0 1 fu (ceE (mapK m) (.sl 2 2 0 k none) k) (ceT rm m p (cellsL (m.take k))) = some (.exit 0, ceX (mapK m) (.sl 2 2 0 m.length none) m.length, ceT rm m p (cellsL m))
 | 0, k, fu, h0, hk, hf => by
  obtain ⟨fu, rfl⟩ : ∃ k, fu = k + 1 := ⟨fu - 1, by omega⟩
  have e : k = m.length := by omega
  have hl : (mapK m).length = m.length := by simp [mapK]
  have hb := ho.2.2
  have hb : m.length ≤ 1000000 := by simpa [mapE] using hb
  have := cl_end n fu rm m p (mapK m) (by omega) k h0 (by omega) (cellsL (m.take k))
  rw [this]
  subst e
  rw [List.take_length]
 | q + 1, k, fu, h0, hk, hf => by
  obtain ⟨fu, rfl⟩ : ∃ k, fu = k + 1 := ⟨fu - 1, by omega⟩
  have hl : (mapK m).length = m.length := by simp [mapK]
  have hb := ho.2.2
  have hb : m.length ≤ 1000000 := by simpa [mapE] using hb
  have hlt : k < m.length := by omega
  have hx : m[k]? = some m[k] := List.getElem?_eq_getElem hlt
  have ha : atI (mapK m) k = m[k].1 := by
   unfold atI
   rw [List.getD_eq_getElem?_getD]
   simp [mapK, hx]
  have hg : kget (mapE m) (atI (mapK m) k) = some (.isl 1 (bys m[k].2)) := by
   rw [ha, kget_mapE, mget_at (keysOk_asc ho) (show m[k]? = some (m[k].1, m[k].2) from hx)]
   rfl
  have ih := cells_loop n rm m p ho q (k + 1) fu (by omega) (by omega) (by omega)
  have et : cellsL (m.take (k + 1)) = cellsL (m.take k) ++ [.agg [.int .i64 (atI (mapK m) k), .isl 1 (bys (blk m[k].2))]] := by
   rw [ha]
   unfold cellsL
   rw [List.take_add_one, hx, List.map_append]
   rfl
  rw [et] at ih
  refine cl_step n fu rm m p (mapK m) (by omega) k h0 (by omega) _ hg _ (by simp; omega) _ ?_
  exact ih
theorem cells_ok (n : Nat) (rm : Int) (m : ML) (p : PL) (ho : keysOk (mapE m)) (hn : m.length < n + 60) :
  lrun prog C0 (lcall prog C0 (n + 60)) (n + 60) 12 [.ptr 0 0] ⟨1, [(0, dO rm m p)]⟩ = some (.isl 2 (cellsL m), ⟨1, [(0, dO rm m p)]⟩) := by
 cases m with
 | nil => exact cells_none n rm p
 | cons x m =>
  have hb := ho.2.2
  have hb : (x :: m).length ≤ 1000000 := by simpa [mapE] using hb
  refine cells_thru n rm (x :: m) p ho (by simp) (x :: m).length rfl ?_
  have L := cells_loop n rm (x :: m) p ho m.length 1 (n + 59) (by omega) (by simp; omega) (by simp at hn; omega)
  refine cl_step0 n (n + 59) rm (x :: m) p (mapK (x :: m)) (by simpa [mapK] using hb) (by simp [mapK]) x.2 (by
   show kget ((x.1, .isl 1 (bys x.2)) :: mapE m) x.1 = _
   simp [kget]) _ ?_
  exact L
def padP (b : List Int) (k : Nat) : List Int := b.take k ++ List.replicate (64 - k) 0
@[simp] theorem padP_length (b : List Int) (k : Nat) (h : k ≤ b.length) (h2 : k ≤ 64) : (padP b k).length = 64 := by simp [padP]; omega
theorem padP_set (b : List Int) (k : Nat) (h : k < b.length) (h2 : k < 64) : (padP b k).set k (atI b k) = padP b (k + 1) := by
 unfold padP
 rw [List.set_append_right _ _ (by simp; omega)]
 have e : 64 - k = (64 - (k + 1)) + 1 := by omega
 have e2 : k - (List.take k b).length = 0 := by simp; omega
 rw [e2, e, List.replicate_succ, List.set_cons_zero, List.take_succ_eq_append_getElem h, List.append_assoc]
 simp [atI, h]
theorem padP_zero (b : List Int) : padP b 0 = List.replicate 64 0 := by simp [padP]
theorem padP_full (b : List Int) (h : b.length ≤ 64) : padP b b.length = blk b := by
 rw [← blk_padS]; simp only [padP, List.take_length]
 rw [List.take_append, List.take_of_length_le h, List.take_replicate, Nat.min_eq_left (by omega)]
abbrev pdE (b : List Int) (i : Int) : LEnv := [.isl 1 (bys b), .any, .any, .sl 1 0 0 64 none, .int i64 i, .any, .any, .any, .any, .any, .any, .any, .any, .any, .any, .any, .any, .any, .any, .any, .any, .any, .any, .any]
abbrev pdX (b : List Int) (i : Int) : LEnv := [.isl 1 (bys b), .any, .any, .sl 1 0 0 64 none, .int i64 i, .any, .int i64 i, .isl 1 (bys b), .int i64 ((bys b).length : Int), .bool (decide (i < ((bys b).length : Int))), .bool (decide (i < ((bys b).length : Int))), .any, .any, .bool false, .any, .any, .any, .any, .any, .any, .any, .any, .any, .any]
abbrev pdS (b : List Int) (k : Nat) : St := ⟨1, [(0, .row 5 1 (bys (padP b k)))]⟩
theorem pad_step (n fu : Nat) (b : List Int) (hb : b.length ≤ 64) (k : Nat) (hk : k < b.length) (r : LX × LEnv × St) (hr : loopAt prog C0 (n + 20) 49 0 0 fu (pdE b ((k : Int) + 1)) (pdS b (k + 1)) = some r) :
  loopAt prog C0 (n + 20) 49 0 0 (fu + 1) (pdE b k) (pdS b k) = some r := by
 have e := padP_set b k hk (by omega)
 have e2 := padP_length b k (by omega) (by omega)
 have f1 : decide ((↑k : Int) < ((bys b).length : Int)) = true := by simp; omega
 have f2 : LV.bool (if decide ((↑k : Int) < ((bys b).length : Int)) = true then decide ((↑k : Int) < 64) else false) = LV.bool true := by simp; omega
 have f3 : (bys b)[Int.toNat (↑k : Int)]? = some (LV.int IntKind.u8 (atI b k)) := by simp (disch := omega)
 have f4 : 0 ≤ (↑k : Int) ∧ (↑k : Int) < ((bys b).length : Int) := by simp; omega
 have f5 : 0 ≤ (↑k : Int) ∧ (↑k : Int) < 64 := by omega
 have f6 : LV.pel 1 0 (0 + Int.toNat (↑k : Int)) 0 = LV.pel 1 0 k 0 := by simp
 have f7 : (bys (padP b k))[k]? = some (LV.int IntKind.u8 (atI (padP b k) k)) := by simp (disch := omega)
 have f8 : LObj.row 5 1 (List.set (bys (padP b k)) k (LV.int IntKind.u8 (atI b k))) = LObj.row 5 1 (bys (padP b (k + 1))) := by simp (disch := omega) [-List.reduceReplicate, hb, hk, hr, e, e2]
 have f9 : LV.int i64 (IntKind.wrap i64 ((↑k : Int) + 1)) = LV.int i64 ((↑k : Int) + 1) := by simp (disch := omega)
 have f10 := hr
 exact dlp (fun h => ai (congrArg some f1) <| ai (congrArg some f1) <| ai (f2) <| ai (f4) <| ai (f3) <| ai (f5) <| ai (f6) <| ai (f7) <| ai (congrArg some f8) <| ai (f9) <| ai (Eq.refl (tidyOf f10)) <| ai (f10) <| h) (.i (.s (.s (.r [.a, .a, .a, .a, .a, .g true (.a), .g true (.a), .v (vOf f2) (.a)]) (.a)) (.s (.k (.r [.a, .a, .a, .a, .e (rOf f3), .a, .v (vOf f6) (.q), .x 0 (vOf f8) (.e (rOf f7))])) (.r [.a, .v (vOf f9) (.a)]))) (.h [] (eOf f10) (stOf f10) (rOf f10))) (by kernel_rfl)
theorem pad_end (n fu : Nat) (b : List Int) (hb : b.length ≤ 64) :
  loopAt prog C0 (n + 20) 49 0 0 (fu + 1) (pdE b b.length) (pdS b b.length) = some (.exit 0, pdX b b.length, pdS b b.length) := by
 have f1 : decide ((b.length : Int) < ((bys b).length : Int)) = false := by simp
 have f2 : lpick (decide ((b.length : Int) < ((bys b).length : Int))) LV.any (LV.bool false) = some (LV.bool false) := by simp
 exact dlp (fun h => ai (congrArg some f1) <| ai (congrArg some f1) <| ai (x_map (st := (St.mk 1 [(0, LObj.row 5 1 (bys (padP b (List.length b))))])) f2) <| h) (.i (.s (.s (.r [.a, .a, .a, .a, .a, .g false (.a), .g false (.a), .t (rOf (x_map (st := (St.mk 1 [(0, LObj.row 5 1 (bys (padP b (List.length b))))])) f2))]) (.a)) .a) (.a)) (by kernel_rfl)
theorem pad_loop (n : Nat) (b : List Int) (hb : b.length ≤ 64) : ∀ (j k fu : Nat), k + j = b.length → j < fu → loopAt prog C0 (n + 20) 49 0 0 fu (pdE b k) (pdS b k) = some (.exit 0, pdX b b.length, pdS b b.length)
 | 0, k, fu, hk, hf => by
  obtain ⟨fu, rfl⟩ : ∃ q, fu = q + 1 := ⟨fu - 1, by omega⟩
  obtain rfl : k = b.length := by omega
  exact pad_end n fu b hb
 | j + 1, k, fu, hk, hf => by
  obtain ⟨fu, rfl⟩ : ∃ q, fu = q + 1 := ⟨fu - 1, by omega⟩
  exact pad_step n fu b hb k (by omega) _ (pad_loop n b hb j (k + 1) fu (by omega) (by omega))
theorem pad_ok (n : Nat) (b : List Int) (hb : b.length ≤ 64) (hn : 64 < n + 20) : lrun prog C0 (lcall prog C0 (n + 20)) (n + 20) 49 [.isl 1 (bys b)] ⟨0, []⟩ = some (.isl 1 (bys (blk b)), ⟨0, []⟩) := by
 have L := pad_loop n b hb b.length 0 (n + 20) (by omega) (by omega)
 have e := padP_full b hb
 have e2 := padP_zero b
 unfold pdS at L
 rw [e, e2] at L
 have f1 : LObj.row 5 1 (List.replicate 64 (LV.int IntKind.u8 0)) = LObj.row 5 1 (bys (List.replicate 64 0)) := by simp
 have f2 := L
 have f3 : (if 0 = 0 then if 1 = 1 ∧ 0 + 64 ≤ List.length (bys (blk b)) ∧ capLe 64 none = true then LV.isl 1 (List.take 64 (List.drop 0 (bys (blk b)))) else LV.any else LV.sl 1 0 0 64 none) = LV.isl 1 (bys (blk b)) := by simp
 exact drn (fun h => ai (congrArg some f1) <| ai (Eq.refl (tidyOf f2)) <| ai (f2) <| ai (f3) <| h) (.s (.a) (.s (.a) (.s (.s (.a) (.k (.l (.h [.x 0 (vOf f1)] (eOf f2) (stOf f2) (rOf f2))))) (.a)))) [.y 0 (vOf f3)] .a (by kernel_rfl)
abbrev flt (op : List UInt8) (a c : Int) : LV := .ifc 95 (.agg [.str op, .int .i64 a, .ifc 31 (.int .i64 c)])
theorem write_bad (n : Nat) (at_ : Int) (b : List Int) (rm : Int) (m : ML) (p : PL) (h : at_ < 0 ∨ 1073741824 < at_) :
  lrun prog C0 (lcall prog C0 (n + 20)) (n + 20) 19 [.ptr 0 0, .int .i64 at_, .isl 1 (bys b)] ⟨1, [(0, dO rm m p)]⟩ = some (flt [98,108,111,99,107] at_ 2, ⟨1, [(0, dO rm m p)]⟩) := by
 have f1 := right_no (n + 10) at_ h
 exact drn (fun h => ai (f1) <| h) (.s (.a) (.s (.s (.r [.a, .f (rOf f1)]) (.a)) .a)) [] .a (by kernel_rfl)
theorem write_long (n : Nat) (at_ : Int) (b : List Int) (rm : Int) (m : ML) (p : PL) (h0 : 0 ≤ at_) (h1 : at_ ≤ 1073741824) (hb : 64 < b.length) (hb2 : b.length ≤ 1000000) :
  lrun prog C0 (lcall prog C0 (n + 20)) (n + 20) 19 [.ptr 0 0, .int .i64 at_, .isl 1 (bys b)] ⟨1, [(0, dO rm m p)]⟩ = some (flt [115,105,122,101] b.length 6, ⟨1, [(0, dO rm m p)]⟩) := by
 have f1 := right_ok (n + 10) at_ h0 h1
 have f2 : decide (64 < ((bys b).length : Int)) = true := by simp; omega
 have f3 : (LV.ifc 95 (LV.agg [LV.str [115, 105, 122, 101], .int i64 ((bys b).length : Int), LV.ifc 31 (LV.int i64 6)]), St.mk 1 [(0, LObj.box 64 [.int i64 rm, .omap i64 (mapK m) (mapV m), .own 90 2 (pnds p)])]) = (flt [115, 105, 122, 101] (b.length : Int) 6, St.mk 1 [(0, dO rm m p)]) := by simp
 exact drn (fun h => ai (f1) <| ai (congrArg LV.bool f2) <| f3) (.s (.a) (.s (.s (.r [.a, .f (rOf f1)]) (.a)) (.s (.s (.a) (.b true (.a))) .a))) [] .a (by kernel_rfl)
theorem write_full (n : Nat) (at_ : Int) (b : List Int) (rm : Int) (m : ML) (p : PL) (h0 : 0 ≤ at_) (h1 : at_ ≤ 1073741824) (hb : b.length ≤ 64) (hp : p.length ≤ 1000000) (ho : okP p)
  (hk : kget (needs m p) at_ = none) (hr : rm ≤ (needs m p).length) :
  lrun prog C0 (lcall prog C0 (n + 20)) (n + 20) 19 [.ptr 0 0, .int .i64 at_, .isl 1 (bys b)] ⟨1, [(0, dO rm m p)]⟩ = some (flt [98,108,111,99,107] at_ 7, ⟨1, [(0, dO rm m p)]⟩) := by
 have f1 := right_ok (n + 10) at_ h0 h1
 have f2 : decide (64 < ((bys b).length : Int)) = false := by simp; omega
 have f3 := needs_ok (n + 19) rm m p hp ho
 have f4 : LV.int i64 ((bys b).length : Int) = LV.int i64 (b.length : Int) := by simp
 have f5 : LV.bool (decide (64 < ((bys b).length : Int))) = LV.bool false := by simp; omega
 have f6 : LObj.map i64 (List.zip (mapK m) (mapV m)) = LObj.map i64 (mapE m) := by simp
 have f7 : LObj.box 64 [.int i64 rm, .map 2, .sl 2 3 0 (List.length (pnds p)) none] = LObj.box 64 [.int i64 rm, .map 2, .sl 2 3 0 (List.length p) none] := by simp
 have f8 : kget (needs m p) at_ = none := hk
 have f9 : LV.bool (if true = true then decide (rm ≤ ((needs m p).length : Int)) else false) = LV.bool true := by simp; omega
 have f10 : List.length (pnds p) = List.length p := by simp
 have f11 : (LV.ifc 95 (LV.agg [LV.str [98, 108, 111, 99, 107], .int i64 at_, LV.ifc 31 (LV.int i64 7)]), St.mk 1 [(0, LObj.box 64 [.int i64 rm, .omap i64 (List.map (·.1) (mapE m)) (List.map (·.2) (mapE m)), .own 90 2 (pnds p)])]) = (flt [98, 108, 111, 99, 107] at_ 7, St.mk 1 [(0, dO rm m p)]) := by simp
 exact drn (fun h => ai (f1) <| ai (congrArg LV.bool f2) <| ai (f3) <| ai (f4) <| ai (f5) <| ai (congrArg some f6) <| ai (congrArg some f7) <| ai (f8) <| ai (f9) <| ai (f10) <| f11) (.s (.a) (.s (.s (.r [.a, .f (rOf f1)]) (.a)) (.s (.s (.a) (.b false (.a))) (.s (.r [.a, .f (rOf f3)]) (.s (.s (.d [.y 16 (vOf f4), .y 17 (vOf f5), .x 2 (vOf f6), .x 0 (vOf f7)] [.a, .a, .o (vOf f8), .a, .a, .a, .a, .a, .a, .a, .a] [] [.a, .v (vOf f9) (.a)]) (.a)) .a))))) [] .q (by kernel_rfl)
theorem free_bad (n : Nat) (at_ : Int) (rm : Int) (m : ML) (p : PL) (h : at_ < 0 ∨ 1073741824 < at_) :
  lrun prog C0 (lcall prog C0 (n + 20)) (n + 20) 23 [.ptr 0 0, .int .i64 at_] ⟨1, [(0, dO rm m p)]⟩ = some (flt [98,108,111,99,107] at_ 2, ⟨1, [(0, dO rm m p)]⟩) := by
 have f1 := right_no (n + 10) at_ h
 exact drn (fun h => ai (f1) <| h) (.s (.a) (.s (.s (.r [.a, .f (rOf f1)]) (.a)) .a)) [] .a (by kernel_rfl)
@[simp] theorem pnds_snocN (p : PL) (at_ : Int) : pnds p ++ [.agg [.int .i64 at_, .nils]] = pnds (p ++ [(at_, none)]) := by simp [pnds, pnd]
theorem free_ok (n : Nat) (at_ : Int) (rm : Int) (m : ML) (p : PL) (h0 : 0 ≤ at_) (h1 : at_ ≤ 1073741824) (hp : p.length ≤ 1000000) :
  lrun prog C0 (lcall prog C0 (n + 20)) (n + 20) 23 [.ptr 0 0, .int .i64 at_] ⟨1, [(0, dO rm m p)]⟩ = some (.nili, ⟨1, [(0, dO rm m (p ++ [(at_, none)]))]⟩) := by
 have f1 := right_ok (n + 10) at_ h0 h1
 have f2 : 1 ≤ 1 := by omega
 have f3 : List.length (pnds p) = List.length (pnds p) ∧ (List.length (pnds p) + 1) * 32 ≤ 140737488355328 := by simp; omega
 have f4 : LV.sl 2 3 0 (List.length (pnds p) + 1) none = LV.sl 2 3 0 (List.length p + 1) none := by simp
 have f5 : LObj.row 90 2 (pnds p ++ List.take 1 (List.drop 0 (List.set [.agg [.int i64 0, .nils]] 0 (LV.agg [.int i64 at_, .nils])))) = LObj.row 90 2 (pnds (p ++ [(at_, none)])) := by simp
 have f6 : LObj.row 90 2 (List.set [.agg [.int i64 0, .nils]] 0 (LV.agg [.int i64 at_, .nils])) = LObj.row 90 2 [.agg [.int i64 at_, .nils]] := by simp
 have f7 : LObj.box 64 [.int i64 rm, .omap i64 (mapK m) (mapV m), .sl 2 1 0 (List.length (pnds p)) none] = LObj.box 64 [.int i64 rm, .omap i64 (mapK m) (mapV m), .sl 2 1 0 (List.length p) none] := by simp
 have f8 : List.length (pnds (p ++ [(at_, none)])) = List.length p + 1 := by simp
 exact drn (fun h => ai (f1) <| ai (f2) <| ai (f3) <| ai (f4) <| ai (congrArg some f5) <| ai (congrArg some f6) <| ai (congrArg some f7) <| ai (f8) <| h) (.s (.a) (.s (.s (.r [.a, .f (rOf f1)]) (.a)) (.s (.r [.a, .a, .a, .a, .a, .a, .a, .a, .x 0 (vOf f7) (.x 2 (vOf f6) (.x 3 (vOf f5) (.v (vOf f4) (.q))))]) (.a)))) [] .q (by kernel_rfl)
theorem wipe_ok (n : Nat) (rm : Int) (m : ML) (p : PL) :
  lrun prog C0 (lcall prog C0 (n + 20)) (n + 20) 32 [.ptr 0 0] ⟨1, [(0, dO rm m p)]⟩ = some (.tup [], ⟨1, [(0, dO rm [] [])]⟩) := by
 exact drn (fun h => h) (.a) [] .a (by kernel_rfl)
theorem dread_bad (n : Nat) (at_ : Int) (rm : Int) (m : ML) (p : PL) (h : at_ < 0 ∨ 1073741824 < at_) (hp : p.length ≤ 1000000) (ho : okP p) :
  lrun prog C0 (lcall prog C0 (n)) (n) 18 [.ptr 0 0, .int .i64 at_] ⟨1, [(0, dO rm m p)]⟩ = some (.tup [.isl 1 [], flt [98,108,111,99,107] at_ 2], ⟨1, [(0, dO rm m p)]⟩) := by
 have X : xRead [.ptr 0 0, .int .i64 at_] ⟨1, [(0, dO rm m p)]⟩ = some (.tup [.nils, flt [98,108,111,99,107] at_ 2], ⟨1, [(0, dO rm m p)]⟩) := by
  have g1 := okW_pnds ho
  have g2 : (pnds p).length ≤ 1048576 := by simp; omega
  simp only [xRead, St.look, olook, if_true, g1, g2, okBs_mapV, and_self]
  rw [if_pos h]
 exact x_runx rfl X (by kernel_rfl)
theorem of_nil (n : Nat) : lrun prog C0 (lcall prog C0 (n + 20)) (n + 20) 27 [.nili] ⟨0, []⟩ = some (.int .i64 0, ⟨0, []⟩) := by
 exact drn (fun h => h) (.a) [] .a (by kernel_rfl)
theorem of_code (n : Nat) (op : List UInt8) (a c : Int) : lrun prog C0 (lcall prog C0 (n + 20)) (n + 20) 27 [flt op a c] ⟨0, []⟩ = some (.int .i64 c, ⟨0, []⟩) := by
 exact drn (fun h => h) (.a) [] .a (by kernel_rfl)
abbrev crE (ks : List Int) (cut last i : Int) (N : Nat) : LEnv := [.ptr 0 0, .isl 1 (ints ks), .int i64 cut, .any, .any, .any, .int i64 last, .any, .any, .any, .any, .any, .any, .any, .any, .any, .int i64 N, .int i64 i, .any, .any, .any, .any, .any, .any, .any, .any, .any, .any, .any, .any, .any, .any, .any, .any, .any, .any, .any, .any, .any, .any, .any, .any, .any, .any, .any, .any, .any, .any, .any, .any, .any, .any, .any, .any, .any, .any, .any, .any, .any, .any, .any, .any, .any, .any, .any, .any, .any, .any, .any, .any, .any, .any, .any, .any, .any, .any, .any, .any, .any, .any, .any, .any, .any, .any, .any, .any, .any, .any, .any, .any, .any, .any, .any, .any, .any, .any, .any, .any]
abbrev crX (ks : List Int) (cut last i : Int) (N : Nat) : LEnv := [.ptr 0 0, .isl 1 (ints ks), .int i64 cut, .any, .any, .any, .int i64 last, .any, .any, .any, .any, .any, .any, .any, .any, .any, .int i64 N, .int i64 i, .bool (decide (i < (N : Int))), .any, .any, .any, .any, .any, .any, .any, .any, .any, .any, .any, .any, .any, .any, .any, .any, .any, .any, .any, .any, .any, .any, .any, .any, .any, .any, .any, .any, .any, .any, .any, .any, .any, .any, .any, .any, .any, .any, .any, .any, .any, .any, .any, .any, .any, .any, .any, .any, .any, .any, .any, .any, .any, .any, .any, .any, .any, .any, .any, .any, .any, .any, .any, .any, .any, .any, .any, .any, .any, .any, .any, .any, .any, .any, .any, .any, .any, .any, .any]
abbrev crS (rm : Int) (m : ML) (p : PL) : St := ⟨2, [(0, LObj.box 64 [.int i64 rm, .omap i64 (mapK m) (mapV m), .sl 2 1 0 p.length none]), (1, LObj.row 90 2 (pnds p))]⟩
theorem cr_hit (n fu : Nat) (rm : Int) (m : ML) (p : PL) (ks : List Int) (cut last : Int) (k N : Nat) (hN : N ≤ 100000) (hk : k < N) (h1 : k < ks.length) (h2 : ¬ atI ks k = 0) (r : LX × LEnv × St)
  (hr : loopAt prog C0 (n + 60) 20 0 1 fu (crE ks cut k ((k : Int) + 1) N) (crS rm m p) = some r) :
  loopAt prog C0 (n + 60) 20 0 1 (fu + 1) (crE ks cut last k N) (crS rm m p) = some r := by
 have f1 : decide ((↑k : Int) < (↑N : Int)) = true := by simp; omega
 have f2 : decide ((↑k : Int) < ((ints ks).length : Int)) = true := by simp; omega
 have f3 : (ints ks)[Int.toNat (↑k : Int)]? = some (LV.int i64 (atI ks k)) := by simp (disch := omega)
 have f4 : 0 ≤ (↑k : Int) ∧ (↑k : Int) < ((ints ks).length : Int) := by simp; omega
 have f5 : LV.bool (if decide ((↑k : Int) < ((ints ks).length : Int)) = true then !decide (atI ks k = 0) else false) = LV.bool true := by simp; omega
 have f6 : LV.int i64 (IntKind.wrap i64 ((↑k : Int) + 1)) = LV.int i64 ((↑k : Int) + 1) := by simp (disch := omega)
 have f7 := hr
 exact dlp (fun h => ai (congrArg LV.bool f1) <| ai (congrArg some f2) <| ai (congrArg some f2) <| ai (congrArg some f2) <| ai (f4) <| ai (f3) <| ai (congrArg some f2) <| ai (congrArg some f2) <| ai (f5) <| ai (f6) <| ai (Eq.refl (tidyOf f7)) <| ai (f7) <| h) (.i (.s (.a) (.s (.b true (.a)) (.s (.k (.s (.a) (.s (.r [.a, .a, .a, .a, .a, .g true (.a), .g true (.a), .g true (.e (rOf f3)), .g true (.a), .g true (.a), .v (vOf f5) (.a)]) (.a)))) (.r [.v (vOf f6) (.a)])))) (.h [] (eOf f7) (stOf f7) (rOf f7))) (by kernel_rfl)
theorem cr_miss (n fu : Nat) (rm : Int) (m : ML) (p : PL) (ks : List Int) (cut last : Int) (k N : Nat) (hN : N ≤ 100000) (hk : k < N) (h1 : k < ks.length) (h2 : atI ks k = 0) (r : LX × LEnv × St)
  (hr : loopAt prog C0 (n + 60) 20 0 1 fu (crE ks cut last ((k : Int) + 1) N) (crS rm m p) = some r) :
  loopAt prog C0 (n + 60) 20 0 1 (fu + 1) (crE ks cut last k N) (crS rm m p) = some r := by
 have f1 : decide ((↑k : Int) < (↑N : Int)) = true := by simp; omega
 have f2 : decide ((↑k : Int) < ((ints ks).length : Int)) = true := by simp; omega
 have f3 : (ints ks)[Int.toNat (↑k : Int)]? = some (LV.int i64 0) := by (simp (disch := first | omega | (simp; omega)); omega)
 have f4 : 0 ≤ (↑k : Int) ∧ (↑k : Int) < ((ints ks).length : Int) := by simp; omega
 have f5 : LV.bool (if decide ((↑k : Int) < ((ints ks).length : Int)) = true then false else false) = LV.bool false := by simp
 have f6 : LV.int i64 (IntKind.wrap i64 ((↑k : Int) + 1)) = LV.int i64 ((↑k : Int) + 1) := by simp (disch := omega)
 have f7 := hr
 exact dlp (fun h => ai (congrArg LV.bool f1) <| ai (congrArg some f2) <| ai (congrArg some f2) <| ai (congrArg some f2) <| ai (f4) <| ai (f3) <| ai (congrArg some f2) <| ai (congrArg some f2) <| ai (f5) <| ai (f6) <| ai (Eq.refl (tidyOf f7)) <| ai (f7) <| h) (.i (.s (.a) (.s (.b true (.a)) (.s (.k (.s (.a) (.s (.r [.a, .a, .a, .a, .a, .g true (.a), .g true (.a), .g true (.e (rOf f3)), .g true (.a), .g true (.a), .v (vOf f5) (.a)]) (.a)))) (.r [.v (vOf f6) (.a)])))) (.h [] (eOf f7) (stOf f7) (rOf f7))) (by kernel_rfl)
theorem cr_over (n fu : Nat) (rm : Int) (m : ML) (p : PL) (ks : List Int) (cut last : Int) (k N : Nat) (hN : N ≤ 100000) (hk : k < N) (h1 : ks.length ≤ k) (r : LX × LEnv × St)
  (hr : loopAt prog C0 (n + 60) 20 0 1 fu (crE ks cut last ((k : Int) + 1) N) (crS rm m p) = some r) :
  loopAt prog C0 (n + 60) 20 0 1 (fu + 1) (crE ks cut last k N) (crS rm m p) = some r := by
 have f1 : decide ((↑k : Int) < (↑N : Int)) = true := by simp; omega
 have f2 : decide ((↑k : Int) < ((ints ks).length : Int)) = false := by simp; omega
 have f3 : lpick (decide ((↑k : Int) < ((ints ks).length : Int))) LV.any (LV.bool false) = some (LV.bool false) := by simp; omega
 have f4 : LV.int i64 (IntKind.wrap i64 ((↑k : Int) + 1)) = LV.int i64 ((↑k : Int) + 1) := by simp (disch := omega)
 have f5 := hr
 exact dlp (fun h => ai (congrArg LV.bool f1) <| ai (congrArg some f2) <| ai (congrArg some f2) <| ai (congrArg some f2) <| ai (congrArg some f2) <| ai (congrArg some f2) <| ai (x_map (st := (St.mk 2 [(0, LObj.box 64 [.int i64 rm, .omap i64 (mapK m) (mapV m), .sl 2 1 0 (List.length p) none]), (1, LObj.row 90 2 (pnds p))])) f3) <| ai (f4) <| ai (Eq.refl (tidyOf f5)) <| ai (f5) <| h) (.i (.s (.a) (.s (.b true (.a)) (.s (.k (.s (.a) (.s (.r [.a, .a, .a, .a, .a, .g false (.a), .g false (.a), .g false (.a), .g false (.a), .g false (.a), .t (rOf (x_map (st := (St.mk 2 [(0, LObj.box 64 [.int i64 rm, .omap i64 (mapK m) (mapV m), .sl 2 1 0 (List.length p) none]), (1, LObj.row 90 2 (pnds p))])) f3))]) (.a)))) (.r [.v (vOf f4) (.a)])))) (.h [] (eOf f5) (stOf f5) (rOf f5))) (by kernel_rfl)
theorem cr_end (n fu : Nat) (rm : Int) (m : ML) (p : PL) (ks : List Int) (cut last : Int) (N : Nat) (hN : N ≤ 100000) :
  loopAt prog C0 (n + 60) 20 0 1 (fu + 1) (crE ks cut last N N) (crS rm m p) = some (.exit 0, crX ks cut last N N, crS rm m p) := by
 have f1 : decide ((↑N : Int) < (↑N : Int)) = false := by simp
 exact dlp (fun h => ai (congrArg LV.bool f1) <| h) (.i (.s (.a) (.s (.b false (.a)) .a)) (.a)) (by kernel_rfl)
abbrev crF (ks : List Int) (cut last i : Int) (N : Nat) : LEnv := [.ptr 0 0, .isl 1 (ints ks), .int i64 cut, .any, .any, .any, .int i64 last, .any, .map 3, .any, .any, .any, .any, .any, .any, .any, .any, .any, .any, .any, .any, .any, .any, .any, .any, .any, .any, .any, .any, .any, .any, .any, .any, .any, .any, .any, .any, .any, .any, .any, .any, .sl 2 2 0 N none, .int i64 N, .int i64 i, .any, .any, .any, .any, .any, .any, .any, .any, .any, .any, .any, .any, .any, .any, .any, .any, .any, .any, .any, .any, .any, .any, .any, .any, .any, .any, .any, .any, .any, .any, .any, .any, .any, .any, .any, .any, .any, .any, .any, .any, .any, .any, .any, .any, .any, .any, .any, .any, .any, .any, .any, .any, .any, .any]
abbrev crG (ks : List Int) (cut last i : Int) (N : Nat) : LEnv := [.ptr 0 0, .isl 1 (ints ks), .int i64 cut, .any, .any, .any, .int i64 last, .any, .map 3, .any, .any, .any, .any, .any, .any, .any, .any, .any, .any, .any, .any, .any, .any, .any, .any, .any, .any, .any, .any, .any, .any, .any, .any, .any, .any, .any, .any, .any, .any, .any, .any, .sl 2 2 0 N none, .int i64 N, .int i64 i, .bool (decide (i < (N : Int))), .any, .any, .any, .any, .any, .any, .any, .any, .any, .any, .any, .any, .any, .any, .any, .any, .any, .any, .any, .any, .any, .any, .any, .any, .any, .any, .any, .any, .any, .any, .any, .any, .any, .any, .any, .any, .any, .any, .any, .any, .any, .any, .any, .any, .any, .any, .any, .any, .any, .any, .any, .any, .any]
theorem cs_pastS (n fu : Nat) (rm : Int) (m : ML) (p : PL) (hp : p.length ≤ 100000) (w : List (Int × LV)) (ks : List Int) (cut last : Int) (k : Nat) (hk : k < p.length) (a : Int) (b : List Int) (hx : (pnds p)[k]? = some (.agg [.int .i64 a, .isl 1 (bys b)])) (h1 : last < k) (r : LX × LEnv × St)
  (hr : loopAt prog C0 (n + 60) 20 1 1 fu (crF ks cut last ((k : Int) + 1) p.length) (aS rm m p w) = some r) :
  loopAt prog C0 (n + 60) 20 1 1 (fu + 1) (crF ks cut last k p.length) (aS rm m p w) = some r := by
 have f1 : decide ((↑k : Int) < (p.length : Int)) = true := by simp; omega
 have f2 : 0 ≤ (↑k : Int) ∧ (↑k : Int) < (p.length : Int) := by omega
 have f3 : LV.pel 2 2 (0 + Int.toNat (↑k : Int)) 0 = LV.pel 2 2 k 0 := by simp
 have f4 : (pnds p)[k]? = some (LV.agg [.int i64 a, .isl 1 (bys b)]) := hx
 have f5 : decide (last < (↑k : Int)) = true := by simp; omega
 have f6 : lpick (decide (last < (↑k : Int))) (LV.bool true) LV.any = some (LV.bool true) := by simp; omega
 have f7 : LV.int i64 (IntKind.wrap i64 ((↑k : Int) + 1)) = LV.int i64 ((↑k : Int) + 1) := by simp (disch := omega)
 have f8 := hr
 exact dlp (fun h => ai (congrArg LV.bool f1) <| ai (f2) <| ai (f3) <| ai (f4) <| ai (congrArg some f5) <| ai (congrArg some f5) <| ai (congrArg some f5) <| ai (congrArg some f5) <| ai (congrArg some f5) <| ai (x_map (st := (St.mk 5 [(4, LObj.box 90 [.int i64 a, .isl 1 (bys b)]), (0, LObj.box 64 [.int i64 rm, .map 1, .sl 2 2 0 (List.length p) none]), (1, LObj.map i64 (mapE m)), (2, LObj.row 90 2 (pnds p)), (3, LObj.map i64 w)])) f6) <| ai (f7) <| ai (Eq.refl (tidyOf f8)) <| ai (f8) <| h) (.i (.s (.a) (.s (.b true (.a)) (.s (.k (.s (.r [.a, .v (vOf f3) (.q), .e (rOf f4)]) (.s (.s (.r [.a, .a, .a, .a, .g true (.a), .g true (.a), .g true (.a), .g true (.a), .g true (.a), .t (rOf (x_map (st := (St.mk 5 [(4, LObj.box 90 [.int i64 a, .isl 1 (bys b)]), (0, LObj.box 64 [.int i64 rm, .map 1, .sl 2 2 0 (List.length p) none]), (1, LObj.map i64 (mapE m)), (2, LObj.row 90 2 (pnds p)), (3, LObj.map i64 w)])) f6))]) (.a)) .a))) (.r [.v (vOf f7) (.a)])))) (.h [] (eOf f8) (stOf f8) (rOf f8))) (by kernel_rfl)
theorem cs_pastN (n fu : Nat) (rm : Int) (m : ML) (p : PL) (hp : p.length ≤ 100000) (w : List (Int × LV)) (ks : List Int) (cut last : Int) (k : Nat) (hk : k < p.length) (a : Int) (hx : (pnds p)[k]? = some (.agg [.int .i64 a, .nils])) (h1 : last < k) (r : LX × LEnv × St)
  (hr : loopAt prog C0 (n + 60) 20 1 1 fu (crF ks cut last ((k : Int) + 1) p.length) (aS rm m p w) = some r) :
  loopAt prog C0 (n + 60) 20 1 1 (fu + 1) (crF ks cut last k p.length) (aS rm m p w) = some r := by
 have f1 : decide ((↑k : Int) < (p.length : Int)) = true := by simp; omega
 have f2 : 0 ≤ (↑k : Int) ∧ (↑k : Int) < (p.length : Int) := by omega
 have f3 : LV.pel 2 2 (0 + Int.toNat (↑k : Int)) 0 = LV.pel 2 2 k 0 := by simp
 have f4 : (pnds p)[k]? = some (LV.agg [.int i64 a, .nils]) := hx
 have f5 : decide (last < (↑k : Int)) = true := by simp; omega
 have f6 : lpick (decide (last < (↑k : Int))) (LV.bool true) LV.any = some (LV.bool true) := by simp; omega
 have f7 : LV.int i64 (IntKind.wrap i64 ((↑k : Int) + 1)) = LV.int i64 ((↑k : Int) + 1) := by simp (disch := omega)
 have f8 := hr
 exact dlp (fun h => ai (congrArg LV.bool f1) <| ai (f2) <| ai (f3) <| ai (f4) <| ai (congrArg some f5) <| ai (congrArg some f5) <| ai (congrArg some f5) <| ai (congrArg some f5) <| ai (congrArg some f5) <| ai (x_map (st := (St.mk 5 [(4, LObj.box 90 [.int i64 a, .nils]), (0, LObj.box 64 [.int i64 rm, .map 1, .sl 2 2 0 (List.length p) none]), (1, LObj.map i64 (mapE m)), (2, LObj.row 90 2 (pnds p)), (3, LObj.map i64 w)])) f6) <| ai (f7) <| ai (Eq.refl (tidyOf f8)) <| ai (f8) <| h) (.i (.s (.a) (.s (.b true (.a)) (.s (.k (.s (.r [.a, .v (vOf f3) (.q), .e (rOf f4)]) (.s (.s (.r [.a, .a, .a, .a, .g true (.a), .g true (.a), .g true (.a), .g true (.a), .g true (.a), .t (rOf (x_map (st := (St.mk 5 [(4, LObj.box 90 [.int i64 a, .nils]), (0, LObj.box 64 [.int i64 rm, .map 1, .sl 2 2 0 (List.length p) none]), (1, LObj.map i64 (mapE m)), (2, LObj.row 90 2 (pnds p)), (3, LObj.map i64 w)])) f6))]) (.a)) .a))) (.r [.v (vOf f7) (.a)])))) (.h [] (eOf f8) (stOf f8) (rOf f8))) (by kernel_rfl)
theorem cs_lostS (n fu : Nat) (rm : Int) (m : ML) (p : PL) (hp : p.length ≤ 100000) (w : List (Int × LV)) (ks : List Int) (cut last : Int) (k : Nat) (hk : k < p.length) (a : Int) (b : List Int) (hx : (pnds p)[k]? = some (.agg [.int .i64 a, .isl 1 (bys b)])) (h1 : (k : Int) ≤ last) (h2 : k < ks.length) (h3 : atI ks k = 0) (r : LX × LEnv × St)
  (hr : loopAt prog C0 (n + 60) 20 1 1 fu (crF ks cut last ((k : Int) + 1) p.length) (aS rm m p w) = some r) :
  loopAt prog C0 (n + 60) 20 1 1 (fu + 1) (crF ks cut last k p.length) (aS rm m p w) = some r := by
 have f1 : decide ((↑k : Int) < (p.length : Int)) = true := by simp; omega
 have f2 : 0 ≤ (↑k : Int) ∧ (↑k : Int) < (p.length : Int) := by omega
 have f3 : LV.pel 2 2 (0 + Int.toNat (↑k : Int)) 0 = LV.pel 2 2 k 0 := by simp
 have f4 : (pnds p)[k]? = some (LV.agg [.int i64 a, .isl 1 (bys b)]) := hx
 have f5 : decide (last < (↑k : Int)) = false := by simp; omega
 have f6 : (ints ks)[Int.toNat (↑k : Int)]? = some (LV.int i64 0) := by (simp (disch := first | omega | (simp; omega)); omega)
 have f7 : 0 ≤ (↑k : Int) ∧ (↑k : Int) < ((ints ks).length : Int) := by simp; omega
 have f8 : LV.bool (if decide (last < (↑k : Int)) = true then true else true) = LV.bool true := by simp
 have f9 : LV.int i64 (IntKind.wrap i64 ((↑k : Int) + 1)) = LV.int i64 ((↑k : Int) + 1) := by simp (disch := omega)
 have f10 := hr
 exact dlp (fun h => ai (congrArg LV.bool f1) <| ai (f2) <| ai (f3) <| ai (f4) <| ai (congrArg some f5) <| ai (congrArg some f5) <| ai (congrArg some f5) <| ai (f7) <| ai (f6) <| ai (congrArg some f5) <| ai (congrArg some f5) <| ai (f8) <| ai (f9) <| ai (Eq.refl (tidyOf f10)) <| ai (f10) <| h) (.i (.s (.a) (.s (.b true (.a)) (.s (.k (.s (.r [.a, .v (vOf f3) (.q), .e (rOf f4)]) (.s (.s (.r [.a, .a, .a, .a, .g false (.a), .g false (.a), .g false (.e (rOf f6)), .g false (.a), .g false (.a), .v (vOf f8) (.a)]) (.a)) .a))) (.r [.v (vOf f9) (.a)])))) (.h [] (eOf f10) (stOf f10) (rOf f10))) (by kernel_rfl)
theorem cs_lostN (n fu : Nat) (rm : Int) (m : ML) (p : PL) (hp : p.length ≤ 100000) (w : List (Int × LV)) (ks : List Int) (cut last : Int) (k : Nat) (hk : k < p.length) (a : Int) (hx : (pnds p)[k]? = some (.agg [.int .i64 a, .nils])) (h1 : (k : Int) ≤ last) (h2 : k < ks.length) (h3 : atI ks k = 0) (r : LX × LEnv × St)
  (hr : loopAt prog C0 (n + 60) 20 1 1 fu (crF ks cut last ((k : Int) + 1) p.length) (aS rm m p w) = some r) :
  loopAt prog C0 (n + 60) 20 1 1 (fu + 1) (crF ks cut last k p.length) (aS rm m p w) = some r := by
 have f1 : decide ((↑k : Int) < (p.length : Int)) = true := by simp; omega
 have f2 : 0 ≤ (↑k : Int) ∧ (↑k : Int) < (p.length : Int) := by omega
 have f3 : LV.pel 2 2 (0 + Int.toNat (↑k : Int)) 0 = LV.pel 2 2 k 0 := by simp
 have f4 : (pnds p)[k]? = some (LV.agg [.int i64 a, .nils]) := hx
 have f5 : decide (last < (↑k : Int)) = false := by simp; omega
 have f6 : (ints ks)[Int.toNat (↑k : Int)]? = some (LV.int i64 0) := by (simp (disch := first | omega | (simp; omega)); omega)
 have f7 : 0 ≤ (↑k : Int) ∧ (↑k : Int) < ((ints ks).length : Int) := by simp; omega
 have f8 : LV.bool (if decide (last < (↑k : Int)) = true then true else true) = LV.bool true := by simp
 have f9 : LV.int i64 (IntKind.wrap i64 ((↑k : Int) + 1)) = LV.int i64 ((↑k : Int) + 1) := by simp (disch := omega)
 have f10 := hr
 exact dlp (fun h => ai (congrArg LV.bool f1) <| ai (f2) <| ai (f3) <| ai (f4) <| ai (congrArg some f5) <| ai (congrArg some f5) <| ai (congrArg some f5) <| ai (f7) <| ai (f6) <| ai (congrArg some f5) <| ai (congrArg some f5) <| ai (f8) <| ai (f9) <| ai (Eq.refl (tidyOf f10)) <| ai (f10) <| h) (.i (.s (.a) (.s (.b true (.a)) (.s (.k (.s (.r [.a, .v (vOf f3) (.q), .e (rOf f4)]) (.s (.s (.r [.a, .a, .a, .a, .g false (.a), .g false (.a), .g false (.e (rOf f6)), .g false (.a), .g false (.a), .v (vOf f8) (.a)]) (.a)) .a))) (.r [.v (vOf f9) (.a)])))) (.h [] (eOf f10) (stOf f10) (rOf f10))) (by kernel_rfl)
theorem cs_free1 (n fu : Nat) (rm : Int) (m : ML) (p : PL) (hp : p.length ≤ 100000) (w : List (Int × LV)) (ks : List Int) (cut last : Int) (k : Nat) (hk : k < p.length) (a : Int) (hx : (pnds p)[k]? = some (.agg [.int .i64 a, .nils])) (h1 : (k : Int) < last) (h2 : k < ks.length) (h3 : ¬ atI ks k = 0) (r : LX × LEnv × St)
  (hr : loopAt prog C0 (n + 60) 20 1 1 fu (crF ks cut last ((k : Int) + 1) p.length) (aS rm m p (kdel w a)) = some r) :
  loopAt prog C0 (n + 60) 20 1 1 (fu + 1) (crF ks cut last k p.length) (aS rm m p w) = some r := by
 have f1 : decide ((↑k : Int) < (p.length : Int)) = true := by simp; omega
 have f2 : 0 ≤ (↑k : Int) ∧ (↑k : Int) < (p.length : Int) := by omega
 have f3 : LV.pel 2 2 (0 + Int.toNat (↑k : Int)) 0 = LV.pel 2 2 k 0 := by simp
 have f4 : (pnds p)[k]? = some (LV.agg [.int i64 a, .nils]) := hx
 have f5 : decide (last < (↑k : Int)) = false := by simp; omega
 have f6 : (ints ks)[Int.toNat (↑k : Int)]? = some (LV.int i64 (atI ks k)) := by simp (disch := omega)
 have f7 : 0 ≤ (↑k : Int) ∧ (↑k : Int) < ((ints ks).length : Int) := by simp; omega
 have f8 : LV.bool (if decide (last < (↑k : Int)) = true then true else decide (atI ks k = 0)) = LV.bool false := by simp; omega
 have f9 : decide ((↑k : Int) = last) = false := by simp; omega
 have f10 : lpick (decide ((↑k : Int) = last)) LV.any (LV.bool false) = some (LV.bool false) := by simp; omega
 have f11 := bput_none (n + 49) a w
 have f12 : LV.int i64 (IntKind.wrap i64 ((↑k : Int) + 1)) = LV.int i64 ((↑k : Int) + 1) := by simp (disch := omega)
 have f13 := hr
 exact dlp (fun h => ai (congrArg LV.bool f1) <| ai (f2) <| ai (f3) <| ai (f4) <| ai (congrArg some f5) <| ai (congrArg some f5) <| ai (congrArg some f5) <| ai (f7) <| ai (f6) <| ai (congrArg some f5) <| ai (congrArg some f5) <| ai (f8) <| ai (congrArg some f9) <| ai (congrArg some f9) <| ai (congrArg some f9) <| ai (x_map (st := (St.mk 5 [(4, LObj.box 90 [.int i64 a, .nils]), (0, LObj.box 64 [.int i64 rm, .map 1, .sl 2 2 0 (List.length p) none]), (1, LObj.map i64 (mapE m)), (2, LObj.row 90 2 (pnds p)), (3, LObj.map i64 w)])) f10) <| ai (f11) <| ai (f12) <| ai (Eq.refl (tidyOf f13)) <| ai (f13) <| h) (.i (.s (.a) (.s (.b true (.a)) (.s (.k (.s (.r [.a, .v (vOf f3) (.q), .e (rOf f4)]) (.s (.s (.r [.a, .a, .a, .a, .g false (.a), .g false (.a), .g false (.e (rOf f6)), .g false (.a), .g false (.a), .v (vOf f8) (.a)]) (.a)) (.s (.s (.r [.a, .a, .a, .a, .g false (.a), .g false (.a), .g false (.a), .t (rOf (x_map (st := (St.mk 5 [(4, LObj.box 90 [.int i64 a, .nils]), (0, LObj.box 64 [.int i64 rm, .map 1, .sl 2 2 0 (List.length p) none]), (1, LObj.map i64 (mapE m)), (2, LObj.row 90 2 (pnds p)), (3, LObj.map i64 w)])) f10))]) (.a)) (.r [.a, .a, .f (rOf f11)]))))) (.r [.v (vOf f12) (.a)])))) (.h [] (eOf f13) (stOf f13) (rOf f13))) (by kernel_rfl)
theorem cs_free2 (n fu : Nat) (rm : Int) (m : ML) (p : PL) (hp : p.length ≤ 100000) (w : List (Int × LV)) (ks : List Int) (cut : Int) (k : Nat) (hk : k < p.length) (a : Int) (hx : (pnds p)[k]? = some (.agg [.int .i64 a, .nils])) (h2 : k < ks.length) (h3 : ¬ atI ks k = 0) (r : LX × LEnv × St)
  (hr : loopAt prog C0 (n + 60) 20 1 1 fu (crF ks cut k ((k : Int) + 1) p.length) (aS rm m p (kdel w a)) = some r) :
  loopAt prog C0 (n + 60) 20 1 1 (fu + 1) (crF ks cut k k p.length) (aS rm m p w) = some r := by
 have f1 : decide ((↑k : Int) < (p.length : Int)) = true := by simp; omega
 have f2 : 0 ≤ (↑k : Int) ∧ (↑k : Int) < (p.length : Int) := by omega
 have f3 : LV.pel 2 2 (0 + Int.toNat (↑k : Int)) 0 = LV.pel 2 2 k 0 := by simp
 have f4 : (pnds p)[k]? = some (LV.agg [.int i64 a, .nils]) := hx
 have f5 : decide ((↑k : Int) < (↑k : Int)) = false := by simp
 have f6 : (ints ks)[Int.toNat (↑k : Int)]? = some (LV.int i64 (atI ks k)) := by simp (disch := omega)
 have f7 : 0 ≤ (↑k : Int) ∧ (↑k : Int) < ((ints ks).length : Int) := by simp; omega
 have f8 : LV.bool (if decide ((↑k : Int) < (↑k : Int)) = true then true else decide (atI ks k = 0)) = LV.bool false := by simp; omega
 have f9 : decide ((↑k : Int) = (↑k : Int)) = true := by simp
 have f10 : LV.bool (if decide ((↑k : Int) = (↑k : Int)) = true then false else false) = LV.bool false := by simp
 have f11 := bput_none (n + 49) a w
 have f12 : LV.int i64 (IntKind.wrap i64 ((↑k : Int) + 1)) = LV.int i64 ((↑k : Int) + 1) := by simp (disch := omega)
 have f13 := hr
 exact dlp (fun h => ai (congrArg LV.bool f1) <| ai (f2) <| ai (f3) <| ai (f4) <| ai (congrArg some f5) <| ai (congrArg some f5) <| ai (congrArg some f5) <| ai (f7) <| ai (f6) <| ai (congrArg some f5) <| ai (congrArg some f5) <| ai (f8) <| ai (congrArg some f9) <| ai (congrArg some f9) <| ai (congrArg some f9) <| ai (f10) <| ai (f11) <| ai (f12) <| ai (Eq.refl (tidyOf f13)) <| ai (f13) <| h) (.i (.s (.a) (.s (.b true (.a)) (.s (.k (.s (.r [.a, .v (vOf f3) (.q), .e (rOf f4)]) (.s (.s (.r [.a, .a, .a, .a, .g false (.a), .g false (.a), .g false (.e (rOf f6)), .g false (.a), .g false (.a), .v (vOf f8) (.a)]) (.a)) (.s (.s (.r [.a, .a, .a, .a, .g true (.a), .g true (.a), .g true (.a), .v (vOf f10) (.a)]) (.a)) (.r [.a, .a, .f (rOf f11)]))))) (.r [.v (vOf f12) (.a)])))) (.h [] (eOf f13) (stOf f13) (rOf f13))) (by kernel_rfl)
theorem cs_put1 (n fu : Nat) (rm : Int) (m : ML) (p : PL) (hp : p.length ≤ 100000) (w : List (Int × LV)) (ks : List Int) (cut last : Int) (k : Nat) (hk : k < p.length) (a : Int) (b : List Int) (hx : (pnds p)[k]? = some (.agg [.int .i64 a, .isl 1 (bys b)])) (hb : b.length = 64) (h1 : (k : Int) < last) (h2 : k < ks.length) (h3 : ¬ atI ks k = 0) (r : LX × LEnv × St)
  (hr : loopAt prog C0 (n + 60) 20 1 1 fu (crF ks cut last ((k : Int) + 1) p.length) (aS rm m p (kput w a (.isl 1 (bys b)))) = some r) :
  loopAt prog C0 (n + 60) 20 1 1 (fu + 1) (crF ks cut last k p.length) (aS rm m p w) = some r := by
 have hb2 : b ≠ [] := by intro h; subst h; simp at hb
 have f1 : decide ((↑k : Int) < (p.length : Int)) = true := by simp; omega
 have f2 : 0 ≤ (↑k : Int) ∧ (↑k : Int) < (p.length : Int) := by omega
 have f3 : LV.pel 2 2 (0 + Int.toNat (↑k : Int)) 0 = LV.pel 2 2 k 0 := by simp
 have f4 : (pnds p)[k]? = some (LV.agg [.int i64 a, .isl 1 (bys b)]) := hx
 have f5 : decide (last < (↑k : Int)) = false := by simp; omega
 have f6 : (ints ks)[Int.toNat (↑k : Int)]? = some (LV.int i64 (atI ks k)) := by simp (disch := omega)
 have f7 : 0 ≤ (↑k : Int) ∧ (↑k : Int) < ((ints ks).length : Int) := by simp; omega
 have f8 : LV.bool (if decide (last < (↑k : Int)) = true then true else decide (atI ks k = 0)) = LV.bool false := by simp; omega
 have f9 : decide ((↑k : Int) = last) = false := by simp; omega
 have f10 : lpick (decide ((↑k : Int) = last)) LV.any (LV.bool false) = some (LV.bool false) := by simp; omega
 have f11 := bput_some (n + 49) a b w hb2
 have f12 : LV.int i64 (IntKind.wrap i64 ((↑k : Int) + 1)) = LV.int i64 ((↑k : Int) + 1) := by simp (disch := omega)
 have f13 := hr
 exact dlp (fun h => ai (congrArg LV.bool f1) <| ai (f2) <| ai (f3) <| ai (f4) <| ai (congrArg some f5) <| ai (congrArg some f5) <| ai (congrArg some f5) <| ai (f7) <| ai (f6) <| ai (congrArg some f5) <| ai (congrArg some f5) <| ai (f8) <| ai (congrArg some f9) <| ai (congrArg some f9) <| ai (congrArg some f9) <| ai (x_map (st := (St.mk 5 [(4, LObj.box 90 [.int i64 a, .isl 1 (bys b)]), (0, LObj.box 64 [.int i64 rm, .map 1, .sl 2 2 0 (List.length p) none]), (1, LObj.map i64 (mapE m)), (2, LObj.row 90 2 (pnds p)), (3, LObj.map i64 w)])) f10) <| ai (f11) <| ai (f12) <| ai (Eq.refl (tidyOf f13)) <| ai (f13) <| h) (.i (.s (.a) (.s (.b true (.a)) (.s (.k (.s (.r [.a, .v (vOf f3) (.q), .e (rOf f4)]) (.s (.s (.r [.a, .a, .a, .a, .g false (.a), .g false (.a), .g false (.e (rOf f6)), .g false (.a), .g false (.a), .v (vOf f8) (.a)]) (.a)) (.s (.s (.r [.a, .a, .a, .a, .g false (.a), .g false (.a), .g false (.a), .t (rOf (x_map (st := (St.mk 5 [(4, LObj.box 90 [.int i64 a, .isl 1 (bys b)]), (0, LObj.box 64 [.int i64 rm, .map 1, .sl 2 2 0 (List.length p) none]), (1, LObj.map i64 (mapE m)), (2, LObj.row 90 2 (pnds p)), (3, LObj.map i64 w)])) f10))]) (.a)) (.r [.a, .a, .f (rOf f11)]))))) (.r [.v (vOf f12) (.a)])))) (.h [] (eOf f13) (stOf f13) (rOf f13))) (by kernel_rfl)
theorem cs_put2 (n fu : Nat) (rm : Int) (m : ML) (p : PL) (hp : p.length ≤ 100000) (w : List (Int × LV)) (ks : List Int) (cut : Int) (k : Nat) (hk : k < p.length) (a : Int) (b : List Int) (hx : (pnds p)[k]? = some (.agg [.int .i64 a, .isl 1 (bys b)])) (hb : b.length = 64) (h2 : k < ks.length) (h3 : ¬ atI ks k = 0) (hc : cut < 0) (r : LX × LEnv × St)
  (hr : loopAt prog C0 (n + 60) 20 1 1 fu (crF ks cut k ((k : Int) + 1) p.length) (aS rm m p (kput w a (.isl 1 (bys b)))) = some r) :
  loopAt prog C0 (n + 60) 20 1 1 (fu + 1) (crF ks cut k k p.length) (aS rm m p w) = some r := by
 have hb2 : b ≠ [] := by intro h; subst h; simp at hb
 have f1 : decide ((↑k : Int) < (p.length : Int)) = true := by simp; omega
 have f2 : 0 ≤ (↑k : Int) ∧ (↑k : Int) < (p.length : Int) := by omega
 have f3 : LV.pel 2 2 (0 + Int.toNat (↑k : Int)) 0 = LV.pel 2 2 k 0 := by simp
 have f4 : (pnds p)[k]? = some (LV.agg [.int i64 a, .isl 1 (bys b)]) := hx
 have f5 : decide ((↑k : Int) < (↑k : Int)) = false := by simp
 have f6 : (ints ks)[Int.toNat (↑k : Int)]? = some (LV.int i64 (atI ks k)) := by simp (disch := omega)
 have f7 : 0 ≤ (↑k : Int) ∧ (↑k : Int) < ((ints ks).length : Int) := by simp; omega
 have f8 : LV.bool (if decide ((↑k : Int) < (↑k : Int)) = true then true else decide (atI ks k = 0)) = LV.bool false := by simp; omega
 have f9 : decide ((↑k : Int) = (↑k : Int)) = true := by simp
 have f10 : List.isEmpty (bys b) = false := by simp; omega
 have f11 : LV.bool (if decide ((↑k : Int) = (↑k : Int)) = true then true else false) = LV.bool true := by simp
 have f12 : LV.bool (if true = true then decide (0 ≤ cut) else false) = LV.bool false := by simp; omega
 have f13 := bput_some (n + 49) a b w hb2
 have f14 : LV.int i64 (IntKind.wrap i64 ((↑k : Int) + 1)) = LV.int i64 ((↑k : Int) + 1) := by simp (disch := omega)
 have f15 := hr
 exact dlp (fun h => ai (congrArg LV.bool f1) <| ai (f2) <| ai (f3) <| ai (f4) <| ai (congrArg some f5) <| ai (congrArg some f5) <| ai (congrArg some f5) <| ai (f7) <| ai (f6) <| ai (congrArg some f5) <| ai (congrArg some f5) <| ai (f8) <| ai (congrArg some f9) <| ai (congrArg some f9) <| ai (congrArg some f9) <| ai (f10) <| ai (f11) <| ai (f12) <| ai (f13) <| ai (f14) <| ai (Eq.refl (tidyOf f15)) <| ai (f15) <| h) (.i (.s (.a) (.s (.b true (.a)) (.s (.k (.s (.r [.a, .v (vOf f3) (.q), .e (rOf f4)]) (.s (.s (.r [.a, .a, .a, .a, .g false (.a), .g false (.a), .g false (.e (rOf f6)), .g false (.a), .g false (.a), .v (vOf f8) (.a)]) (.a)) (.s (.s (.r [.a, .a, .a, .a, .g true (.a), .g true (.a), .g true (.q), .v (vOf f11) (.a), .a, .a, .a, .v (vOf f12) (.a)]) (.a)) (.r [.a, .a, .f (rOf f13)]))))) (.r [.v (vOf f14) (.a)])))) (.h [] (eOf f15) (stOf f15) (rOf f15))) (by kernel_rfl)
theorem cs_put3 (n fu : Nat) (rm : Int) (m : ML) (p : PL) (hp : p.length ≤ 100000) (w : List (Int × LV)) (ks : List Int) (cut : Int) (k : Nat) (hk : k < p.length) (a : Int) (b : List Int) (hx : (pnds p)[k]? = some (.agg [.int .i64 a, .isl 1 (bys b)])) (hb : b.length = 64) (h2 : k < ks.length) (h3 : ¬ atI ks k = 0) (hc : 64 ≤ cut) (r : LX × LEnv × St)
  (hr : loopAt prog C0 (n + 60) 20 1 1 fu (crF ks cut k ((k : Int) + 1) p.length) (aS rm m p (kput w a (.isl 1 (bys b)))) = some r) :
  loopAt prog C0 (n + 60) 20 1 1 (fu + 1) (crF ks cut k k p.length) (aS rm m p w) = some r := by
 have hb2 : b ≠ [] := by intro h; subst h; simp at hb
 have f1 : decide ((↑k : Int) < (p.length : Int)) = true := by simp; omega
 have f2 : 0 ≤ (↑k : Int) ∧ (↑k : Int) < (p.length : Int) := by omega
 have f3 : LV.pel 2 2 (0 + Int.toNat (↑k : Int)) 0 = LV.pel 2 2 k 0 := by simp
 have f4 : (pnds p)[k]? = some (LV.agg [.int i64 a, .isl 1 (bys b)]) := hx
 have f5 : decide ((↑k : Int) < (↑k : Int)) = false := by simp
 have f6 : (ints ks)[Int.toNat (↑k : Int)]? = some (LV.int i64 (atI ks k)) := by simp (disch := omega)
 have f7 : 0 ≤ (↑k : Int) ∧ (↑k : Int) < ((ints ks).length : Int) := by simp; omega
 have f8 : LV.bool (if decide ((↑k : Int) < (↑k : Int)) = true then true else decide (atI ks k = 0)) = LV.bool false := by simp; omega
 have f9 : decide ((↑k : Int) = (↑k : Int)) = true := by simp
 have f10 : List.isEmpty (bys b) = false := by simp; omega
 have f11 : LV.bool (if decide ((↑k : Int) = (↑k : Int)) = true then true else false) = LV.bool true := by simp
 have f12 : LV.bool (if true = true then decide (0 ≤ cut) else false) = LV.bool true := by simp; omega
 have f13 : LV.bool (if true = true then decide (cut < 64) else false) = LV.bool false := by simp; omega
 have f14 := bput_some (n + 49) a b w hb2
 have f15 : LV.int i64 (IntKind.wrap i64 ((↑k : Int) + 1)) = LV.int i64 ((↑k : Int) + 1) := by simp (disch := omega)
 have f16 := hr
 exact dlp (fun h => ai (congrArg LV.bool f1) <| ai (f2) <| ai (f3) <| ai (f4) <| ai (congrArg some f5) <| ai (congrArg some f5) <| ai (congrArg some f5) <| ai (f7) <| ai (f6) <| ai (congrArg some f5) <| ai (congrArg some f5) <| ai (f8) <| ai (congrArg some f9) <| ai (congrArg some f9) <| ai (congrArg some f9) <| ai (f10) <| ai (f11) <| ai (f12) <| ai (f13) <| ai (f14) <| ai (f15) <| ai (Eq.refl (tidyOf f16)) <| ai (f16) <| h) (.i (.s (.a) (.s (.b true (.a)) (.s (.k (.s (.r [.a, .v (vOf f3) (.q), .e (rOf f4)]) (.s (.s (.r [.a, .a, .a, .a, .g false (.a), .g false (.a), .g false (.e (rOf f6)), .g false (.a), .g false (.a), .v (vOf f8) (.a)]) (.a)) (.s (.s (.r [.a, .a, .a, .a, .g true (.a), .g true (.a), .g true (.q), .v (vOf f11) (.a), .a, .a, .a, .v (vOf f12) (.a), .a, .a, .a, .v (vOf f13) (.a)]) (.a)) (.r [.a, .a, .f (rOf f14)]))))) (.r [.v (vOf f15) (.a)])))) (.h [] (eOf f16) (stOf f16) (rOf f16))) (by kernel_rfl)
theorem cs_torn (n fu : Nat) (rm : Int) (m : ML) (p : PL) (hp : p.length ≤ 100000) (w : List (Int × LV)) (ks : List Int) (cut : Int) (k : Nat) (hk : k < p.length) (a : Int) (b : List Int) (hx : (pnds p)[k]? = some (.agg [.int .i64 a, .isl 1 (bys b)])) (hb : b.length = 64) (h2 : k < ks.length) (h3 : ¬ atI ks k = 0) (hc : 0 ≤ cut) (hc2 : cut < 64) (c : List Int) (hg : kget w a = some (.isl 1 (bys c))) (r : LX × LEnv × St)
  (hr : loopAt prog C0 (n + 60) 20 1 1 fu (crF ks cut k ((k : Int) + 1) p.length) (aS rm m p (kput w a (.isl 1 (bys (spliceI (blk c) 0 (b.take cut.toNat)))))) = some r) :
  loopAt prog C0 (n + 60) 20 1 1 (fu + 1) (crF ks cut k k p.length) (aS rm m p w) = some r := by
 have hb2 : b ≠ [] := by intro h; subst h; simp at hb
 have f1 : decide ((↑k : Int) < (p.length : Int)) = true := by simp; omega
 have f2 : 0 ≤ (↑k : Int) ∧ (↑k : Int) < (p.length : Int) := by omega
 have f3 : LV.pel 2 2 (0 + Int.toNat (↑k : Int)) 0 = LV.pel 2 2 k 0 := by simp
 have f4 : (pnds p)[k]? = some (LV.agg [.int i64 a, .isl 1 (bys b)]) := hx
 have f5 : decide ((↑k : Int) < (↑k : Int)) = false := by simp
 have f6 : (ints ks)[Int.toNat (↑k : Int)]? = some (LV.int i64 (atI ks k)) := by simp (disch := omega)
 have f7 : 0 ≤ (↑k : Int) ∧ (↑k : Int) < ((ints ks).length : Int) := by simp; omega
 have f8 : LV.bool (if decide ((↑k : Int) < (↑k : Int)) = true then true else decide (atI ks k = 0)) = LV.bool false := by simp; omega
 have f9 : decide ((↑k : Int) = (↑k : Int)) = true := by simp
 have f10 : List.isEmpty (bys b) = false := by simp; omega
 have f11 : LV.bool (if decide ((↑k : Int) = (↑k : Int)) = true then true else false) = LV.bool true := by simp
 have f12 : LV.bool (if true = true then decide (0 ≤ cut) else false) = LV.bool true := by simp; omega
 have f13 : LV.bool (if true = true then decide (cut < 64) else false) = LV.bool true := by simp; omega
 have f14 : kget w a = some (LV.isl 1 (bys c)) := hg
 have f15 := whole_ok (n + 50) c
 have f16 : (0 : Int) ≤ (0 : Int) ∧ (0 : Int) ≤ Option.getD (some cut) ((bys b).length : Int) ∧ Option.getD (some cut) ((bys b).length : Int) ≤ ((bys b).length : Int) := by simp; omega
 have f17 : LV.isl 1 (List.drop 0 (List.take (Int.toNat (Option.getD (some cut) ((bys b).length : Int))) (bys b))) = LV.isl 1 (bys (List.take (cut.toNat) b)) := by simp
 have f18 : okElems true 1 (sealL (bys (List.take (cut.toNat) b))) = true := by simp
 have f19 : 64 ≤ List.length (bys (blk c)) := by simp
 have f20 : LV.int i64 (↑(min (List.length (sealL (bys (List.take (cut.toNat) b)))) 64) : Int) = LV.int i64 (max cut 0) := by simp (disch := omega)
 have f21 : LObj.row 5 1 (lsplice (bys (blk c)) 0 (List.take (min (List.length (sealL (bys (List.take (cut.toNat) b)))) 64) (sealL (bys (List.take (cut.toNat) b))))) = LObj.row 5 1 (bys (spliceI (blk c) 0 (List.take (cut.toNat) b))) := by simp (disch := first | omega | (simp; omega))
 have f22 : LV.agg [.int i64 a, if 1 = 1 then if 1 = 1 ∧ 0 + 64 ≤ List.length (bys (spliceI (blk c) 0 (List.take (cut.toNat) b))) ∧ capLe 64 none = true then LV.isl 1 (List.take 64 (List.drop 0 (bys (spliceI (blk c) 0 (List.take (cut.toNat) b))))) else LV.any else LV.sl 1 1 0 64 none] = LV.agg [.int i64 a, .isl 1 (bys (spliceI (blk c) 0 (List.take (cut.toNat) b)))] := by simp (disch := first | omega | (simp; omega))
 have f23 : (if 1 = 1 then if 1 = 1 ∧ 0 + 64 ≤ List.length (bys (spliceI (blk c) 0 (List.take (cut.toNat) b))) ∧ capLe 64 none = true then LV.isl 1 (List.take 64 (List.drop 0 (bys (spliceI (blk c) 0 (List.take (cut.toNat) b))))) else LV.any else LV.sl 1 1 0 64 none) = LV.isl 1 (bys (spliceI (blk c) 0 (List.take (cut.toNat) b))) := by simp (disch := first | omega | (simp; omega))
 have f24 : LObj.box 90 [.int i64 a, if 1 = 1 then if 1 = 1 ∧ 0 + 64 ≤ List.length (bys (spliceI (blk c) 0 (List.take (cut.toNat) b))) ∧ capLe 64 none = true then LV.isl 1 (List.take 64 (List.drop 0 (bys (spliceI (blk c) 0 (List.take (cut.toNat) b))))) else LV.any else LV.sl 1 1 0 64 none] = LObj.box 90 [.int i64 a, .isl 1 (bys (spliceI (blk c) 0 (List.take (cut.toNat) b)))] := by simp (disch := first | omega | (simp; omega))
 have f25 : lrun prog C0 (lcall prog C0 (n + 59)) (n + 59) 42 [.map 0, .agg [.int i64 a, .sl 1 1 0 64 none]] (St.mk 2 [(0, LObj.map i64 w), (1, LObj.row 5 1 (bys (spliceI (blk c) 0 (List.take (cut.toNat) b))))]) = some (LV.tup [], St.mk 2 [(0, LObj.map i64 (kput w a (LV.isl 1 (bys (spliceI (blk c) 0 (List.take (cut.toNat) b))))))]) := drn (fun h => ai (f22) <| ai (f23) <| ai (f23) <| ai (congrArg some f24) <| h) (.s (.a) (.s (.a) (.r [.a, .a, .a, .a, .a, .z [.y 1 (vOf f22), .y 5 (vOf f23), .y 14 (vOf f23), .x 2 (vOf f24)] (.a)]))) [] .a (by kernel_rfl)
 have f26 : LV.int i64 (IntKind.wrap i64 ((↑k : Int) + 1)) = LV.int i64 ((↑k : Int) + 1) := by simp (disch := omega)
 have f27 := hr
 exact dlp (fun h => ai (congrArg LV.bool f1) <| ai (f2) <| ai (f3) <| ai (f4) <| ai (congrArg some f5) <| ai (congrArg some f5) <| ai (congrArg some f5) <| ai (f7) <| ai (f6) <| ai (congrArg some f5) <| ai (congrArg some f5) <| ai (f8) <| ai (congrArg some f9) <| ai (congrArg some f9) <| ai (congrArg some f9) <| ai (f10) <| ai (f11) <| ai (f12) <| ai (f13) <| ai (f14) <| ai (f15) <| ai (f16) <| ai (f17) <| ai (f18) <| ai (f19) <| ai (f20) <| ai (congrArg some f21) <| ai (f25) <| ai (f26) <| ai (Eq.refl (tidyOf f27)) <| ai (f27) <| h) (.i (.s (.a) (.s (.b true (.a)) (.s (.k (.s (.r [.a, .v (vOf f3) (.q), .e (rOf f4)]) (.s (.s (.r [.a, .a, .a, .a, .g false (.a), .g false (.a), .g false (.e (rOf f6)), .g false (.a), .g false (.a), .v (vOf f8) (.a)]) (.a)) (.s (.s (.r [.a, .a, .a, .a, .g true (.a), .g true (.a), .g true (.q), .v (vOf f11) (.a), .a, .a, .a, .v (vOf f12) (.a), .a, .a, .a, .v (vOf f13) (.a)]) (.c (.s (.r [.a, .a, .a, .o (vOf f14), .f (rOf f15)]) (.s (.r [.a, .a, .a, .a, .v (vOf f17) (.q), .x 5 (vOf f21) (.v (vOf f20) (.q))]) (.a))))) (.r [.a, .a, .f (rOf f25)]))))) (.r [.v (vOf f26) (.a)])))) (.h [] (eOf f27) (stOf f27) (rOf f27))) (by kernel_rfl)
theorem cs_torn0 (n fu : Nat) (rm : Int) (m : ML) (p : PL) (hp : p.length ≤ 100000) (w : List (Int × LV)) (ks : List Int) (cut : Int) (k : Nat) (hk : k < p.length) (a : Int) (b : List Int) (hx : (pnds p)[k]? = some (.agg [.int .i64 a, .isl 1 (bys b)])) (hb : b.length = 64) (h2 : k < ks.length) (h3 : ¬ atI ks k = 0) (hc : 0 ≤ cut) (hc2 : cut < 64) (hg : kget w a = none) (r : LX × LEnv × St)
  (hr : loopAt prog C0 (n + 60) 20 1 1 fu (crF ks cut k ((k : Int) + 1) p.length) (aS rm m p (kput w a (.isl 1 (bys (spliceI (List.replicate 64 0) 0 (b.take cut.toNat)))))) = some r) :
  loopAt prog C0 (n + 60) 20 1 1 (fu + 1) (crF ks cut k k p.length) (aS rm m p w) = some r := by
 have hb2 : b ≠ [] := by intro h; subst h; simp at hb
 have f1 : decide ((↑k : Int) < (p.length : Int)) = true := by simp; omega
 have f2 : 0 ≤ (↑k : Int) ∧ (↑k : Int) < (p.length : Int) := by omega
 have f3 : LV.pel 2 2 (0 + Int.toNat (↑k : Int)) 0 = LV.pel 2 2 k 0 := by simp
 have f4 : (pnds p)[k]? = some (LV.agg [.int i64 a, .isl 1 (bys b)]) := hx
 have f5 : decide ((↑k : Int) < (↑k : Int)) = false := by simp
 have f6 : (ints ks)[Int.toNat (↑k : Int)]? = some (LV.int i64 (atI ks k)) := by simp (disch := omega)
 have f7 : 0 ≤ (↑k : Int) ∧ (↑k : Int) < ((ints ks).length : Int) := by simp; omega
 have f8 : LV.bool (if decide ((↑k : Int) < (↑k : Int)) = true then true else decide (atI ks k = 0)) = LV.bool false := by simp; omega
 have f9 : decide ((↑k : Int) = (↑k : Int)) = true := by simp
 have f10 : List.isEmpty (bys b) = false := by simp; omega
 have f11 : LV.bool (if decide ((↑k : Int) = (↑k : Int)) = true then true else false) = LV.bool true := by simp
 have f12 : LV.bool (if true = true then decide (0 ≤ cut) else false) = LV.bool true := by simp; omega
 have f13 : LV.bool (if true = true then decide (cut < 64) else false) = LV.bool true := by simp; omega
 have f14 : kget w a = none := hg
 have f15 : lrun prog C0 (lcall prog C0 (n + 59)) (n + 59) 35 [.nils] (St.mk 0 []) = some (LV.sl 1 0 0 64 none, St.mk 1 [(0, LObj.row 5 1 (lsplice (List.replicate 64 (LV.int IntKind.u8 0)) 0 []))]) := by kernel_rfl
 have f16 : (0 : Int) ≤ (0 : Int) ∧ (0 : Int) ≤ Option.getD (some cut) ((bys b).length : Int) ∧ Option.getD (some cut) ((bys b).length : Int) ≤ ((bys b).length : Int) := by simp; omega
 have f17 : LV.isl 1 (List.drop 0 (List.take (Int.toNat (Option.getD (some cut) ((bys b).length : Int))) (bys b))) = LV.isl 1 (bys (List.take (cut.toNat) b)) := by simp
 have f18 : LObj.row 5 1 (lsplice (List.replicate 64 (LV.int IntKind.u8 0)) 0 []) = LObj.row 5 1 (bys (List.replicate 64 0)) := by simp
 have f19 : okElems true 1 (sealL (bys (List.take (cut.toNat) b))) = true := by simp
 have f20 : 64 ≤ 64 := by omega
 have f21 : LV.int i64 (↑(min (List.length (sealL (bys (List.take (cut.toNat) b)))) 64) : Int) = LV.int i64 (max cut 0) := by simp (disch := omega)
 have f22 : LObj.row 5 1 (lsplice (bys (List.replicate 64 0)) 0 (List.take (min (List.length (sealL (bys (List.take (cut.toNat) b)))) 64) (sealL (bys (List.take (cut.toNat) b))))) = LObj.row 5 1 (bys (spliceI (List.replicate 64 0) 0 (List.take (cut.toNat) b))) := by simp (disch := first | omega | (simp; omega)) [-List.reduceReplicate]
 have f23 : LV.agg [.int i64 a, if 1 = 1 then if 1 = 1 ∧ 0 + 64 ≤ List.length (bys (spliceI (List.replicate 64 0) 0 (List.take (cut.toNat) b))) ∧ capLe 64 none = true then LV.isl 1 (List.take 64 (List.drop 0 (bys (spliceI (List.replicate 64 0) 0 (List.take (cut.toNat) b))))) else LV.any else LV.sl 1 1 0 64 none] = LV.agg [.int i64 a, .isl 1 (bys (spliceI (List.replicate 64 0) 0 (List.take (cut.toNat) b)))] := by simp (disch := first | omega | (simp; omega)) [-List.reduceReplicate]
 have f24 : (if 1 = 1 then if 1 = 1 ∧ 0 + 64 ≤ List.length (bys (spliceI (List.replicate 64 0) 0 (List.take (cut.toNat) b))) ∧ capLe 64 none = true then LV.isl 1 (List.take 64 (List.drop 0 (bys (spliceI (List.replicate 64 0) 0 (List.take (cut.toNat) b))))) else LV.any else LV.sl 1 1 0 64 none) = LV.isl 1 (bys (spliceI (List.replicate 64 0) 0 (List.take (cut.toNat) b))) := by simp (disch := first | omega | (simp; omega)) [-List.reduceReplicate]
 have f25 : LObj.box 90 [.int i64 a, if 1 = 1 then if 1 = 1 ∧ 0 + 64 ≤ List.length (bys (spliceI (List.replicate 64 0) 0 (List.take (cut.toNat) b))) ∧ capLe 64 none = true then LV.isl 1 (List.take 64 (List.drop 0 (bys (spliceI (List.replicate 64 0) 0 (List.take (cut.toNat) b))))) else LV.any else LV.sl 1 1 0 64 none] = LObj.box 90 [.int i64 a, .isl 1 (bys (spliceI (List.replicate 64 0) 0 (List.take (cut.toNat) b)))] := by simp (disch := first | omega | (simp; omega)) [-List.reduceReplicate]
 have f26 : lrun prog C0 (lcall prog C0 (n + 59)) (n + 59) 42 [.map 0, .agg [.int i64 a, .sl 1 1 0 64 none]] (St.mk 2 [(0, LObj.map i64 w), (1, LObj.row 5 1 (bys (spliceI (List.replicate 64 0) 0 (List.take (cut.toNat) b))))]) = some (LV.tup [], St.mk 2 [(0, LObj.map i64 (kput w a (LV.isl 1 (bys (spliceI (List.replicate 64 0) 0 (List.take (cut.toNat) b))))))]) := drn (fun h => ai (f23) <| ai (f24) <| ai (f24) <| ai (congrArg some f25) <| h) (.s (.a) (.s (.a) (.r [.a, .a, .a, .a, .a, .z [.y 1 (vOf f23), .y 5 (vOf f24), .y 14 (vOf f24), .x 2 (vOf f25)] (.a)]))) [] .a (by kernel_rfl)
 have f27 : LV.int i64 (IntKind.wrap i64 ((↑k : Int) + 1)) = LV.int i64 ((↑k : Int) + 1) := by simp (disch := omega)
 have f28 := hr
 exact dlp (fun h => ai (congrArg LV.bool f1) <| ai (f2) <| ai (f3) <| ai (f4) <| ai (congrArg some f5) <| ai (congrArg some f5) <| ai (congrArg some f5) <| ai (f7) <| ai (f6) <| ai (congrArg some f5) <| ai (congrArg some f5) <| ai (f8) <| ai (congrArg some f9) <| ai (congrArg some f9) <| ai (congrArg some f9) <| ai (f10) <| ai (f11) <| ai (f12) <| ai (f13) <| ai (f14) <| ai (f15) <| ai (f16) <| ai (f17) <| ai (congrArg some f18) <| ai (f19) <| ai (f20) <| ai (f21) <| ai (congrArg some f22) <| ai (f26) <| ai (f27) <| ai (Eq.refl (tidyOf f28)) <| ai (f28) <| h) (.i (.s (.a) (.s (.b true (.a)) (.s (.k (.s (.r [.a, .v (vOf f3) (.q), .e (rOf f4)]) (.s (.s (.r [.a, .a, .a, .a, .g false (.a), .g false (.a), .g false (.e (rOf f6)), .g false (.a), .g false (.a), .v (vOf f8) (.a)]) (.a)) (.s (.s (.r [.a, .a, .a, .a, .g true (.a), .g true (.a), .g true (.q), .v (vOf f11) (.a), .a, .a, .a, .v (vOf f12) (.a), .a, .a, .a, .v (vOf f13) (.a)]) (.c (.s (.r [.a, .a, .a, .o (vOf f14), .f (rOf f15)]) (.s (.r [.a, .a, .a, .a, .x 5 (vOf f18) (.v (vOf f17) (.q)), .x 5 (vOf f22) (.v (vOf f21) (.q))]) (.a))))) (.r [.a, .a, .f (rOf f26)]))))) (.r [.v (vOf f27) (.a)])))) (.h [] (eOf f28) (stOf f28) (rOf f28))) (by kernel_rfl)
theorem cs_end (n fu : Nat) (rm : Int) (m : ML) (p : PL) (hp : p.length ≤ 100000) (w : List (Int × LV)) (ks : List Int) (cut last : Int) :
  loopAt prog C0 (n + 60) 20 1 1 (fu + 1) (crF ks cut last p.length p.length) (aS rm m p w) = some (.exit 2, crG ks cut last p.length p.length, aS rm m p w) := by
 have f1 : decide ((p.length : Int) < (p.length : Int)) = false := by simp
 exact dlp (fun h => ai (congrArg LV.bool f1) <| h) (.i (.s (.a) (.s (.b false (.a)) .a)) (.a)) (by kernel_rfl)
theorem crash_thru (n : Nat) (rm : Int) (m m' : ML) (p : PL) (hp : p.length ≤ 100000) (ks : List Int) (cut last : Int) (hn : 0 < p.length)
  (L : loopAt prog C0 (n + 60) 20 0 1 (n + 60) (crE ks cut (-1) 0 p.length) (crS rm m p) = some (.exit 0, crX ks cut last p.length p.length, crS rm m p))
  (L2 : loopAt prog C0 (n + 60) 20 1 1 (n + 60) (crF ks cut last 0 p.length) (aS rm m p (mapE m)) = some (.exit 2, crG ks cut last p.length p.length, aS rm m p (mapE m'))) :
  lrun prog C0 (lcall prog C0 (n + 60)) (n + 60) 20 [.ptr 0 0, .isl 1 (ints ks), .int .i64 cut] ⟨1, [(0, dO rm m p)]⟩ = some (.tup [], ⟨1, [(0, dO rm m' [])]⟩) := by
 have f1 : LV.int i64 ((pnds p).length : Int) = LV.int i64 (p.length : Int) := by simp
 have f2 : LObj.box 64 [.int i64 rm, .omap i64 (mapK m) (mapV m), .sl 2 1 0 (List.length (pnds p)) none] = LObj.box 64 [.int i64 rm, .omap i64 (mapK m) (mapV m), .sl 2 1 0 (List.length p) none] := by simp
 have f3 := L
 have f4 : LObj.map i64 (List.zip (mapK m) (mapV m)) = LObj.map i64 (mapE m) := by simp
 have f5 := clone_ok (n + 54) m
 have f6 := L2
 have f7 : (LV.tup [], St.mk 1 [(0, LObj.box 64 [.int i64 rm, .omap i64 (List.map (·.1) (mapE m')) (List.map (·.2) (mapE m')), .own 90 2 []])]) = (LV.tup [], St.mk 1 [(0, dO rm m' [])]) := by simp
 exact drn (fun h => ai (f1) <| ai (congrArg some f2) <| ai (Eq.refl (tidyOf f3)) <| ai (f3) <| ai (congrArg some f4) <| ai (f5) <| ai (Eq.refl (tidyOf f6)) <| ai (f6) <| f7) (.s (.a) (.s (.s (.a) (.k (.l (.h [.y 16 (vOf f1), .x 0 (vOf f2)] (eOf f3) (stOf f3) (rOf f3))))) (.s (.r [.a, .a, .a, .x 2 (vOf f4) (.a), .f (rOf f5)]) (.s (.s (.a) (.k (.l (.h [] (eOf f6) (stOf f6) (rOf f6))))) (.a))))) [] .q (by kernel_rfl)
abbrev smE (a b : List Int) (i : Int) : LEnv := [.isl 1 (bys a), .isl 1 (bys b), .any, .any, .any, .int i64 i, .any, .any, .any, .any, .any, .any, .any, .any, .any, .any, .any, .any, .any, .any, .any, .any, .any, .any, .any, .any]
abbrev smX (a b : List Int) (i : Int) : LEnv := [.isl 1 (bys a), .isl 1 (bys b), .any, .any, .any, .int i64 i, .any, .any, .any, .any, .any, .int i64 i, .isl 1 (bys a), .int i64 a.length, .bool (decide (i < a.length)), .any, .any, .any, .any, .any, .any, .any, .any, .any, .any, .any]
abbrev smF (a b : List Int) (k : Nat) : LEnv := [.isl 1 (bys a), .isl 1 (bys b), .any, .any, .bool false, .int i64 k, .any, .any, .any, .any, .any, .int i64 k, .isl 1 (bys a), .int i64 ((bys a).length : Int), .bool (decide ((k : Int) < ((bys a).length : Int))), .any, .any, .isl 1 (bys a), .int i64 k, (LV.int IntKind.u8 (atI a k)).irp, .int IntKind.u8 (atI a k), .isl 1 (bys b), .int i64 k, (LV.int IntKind.u8 (atI b k)).irp, .int IntKind.u8 (atI b k), .bool (!decide (atI a k = atI b k))]
theorem same_end (n fu : Nat) (a b : List Int) (hb : a.length ≤ 100000) (i : Int) (hi : (a.length : Int) ≤ i) : loopAt prog C0 (n + 20) 21 0 0 (fu + 1) (smE a b i) ⟨0, []⟩ = some (.exit 0, smX a b i, ⟨0, []⟩) := by
 have f1 : decide (i < ((bys a).length : Int)) = false := by simp; omega
 have f2 : (LX.exit 0, [.isl 1 (bys a), .isl 1 (bys b), .any, .any, .any, .int i64 i, .any, .any, .any, .any, .any, .int i64 i, .isl 1 (bys a), .int i64 ((bys a).length : Int), .bool (decide (i < ((bys a).length : Int))), .any, .any, .any, .any, .any, .any, .any, .any, .any, .any, .any], St.mk 0 []) = (LX.exit 0, smX a b i, St.mk 0 []) := by simp
 exact dlp (fun h => ai (congrArg LV.bool f1) <| f2) (.i (.s (.s (.a) (.b false (.a))) .a) (.a)) (by kernel_rfl)
theorem same_step (n fu : Nat) (a b : List Int) (hb : a.length ≤ 100000) (hl : b.length = a.length) (k : Nat) (hi : k < a.length) (he : atI a k = atI b k) (r : LX × LEnv × St) (hr : loopAt prog C0 (n + 20) 21 0 0 fu (smE a b ((k : Int) + 1)) ⟨0, []⟩ = some r) :
  loopAt prog C0 (n + 20) 21 0 0 (fu + 1) (smE a b k) ⟨0, []⟩ = some r := by
 have f1 : decide ((↑k : Int) < ((bys a).length : Int)) = true := by simp; omega
 have f2 : (bys a)[Int.toNat (↑k : Int)]? = some (LV.int IntKind.u8 (atI b k)) := by (simp (disch := first | omega | (simp; omega)); omega)
 have f3 : 0 ≤ (↑k : Int) ∧ (↑k : Int) < ((bys a).length : Int) := by simp; omega
 have f4 : (bys b)[Int.toNat (↑k : Int)]? = some (LV.int IntKind.u8 (atI b k)) := by simp (disch := omega)
 have f5 : 0 ≤ (↑k : Int) ∧ (↑k : Int) < ((bys b).length : Int) := by simp; omega
 have f6 : (!decide (atI b k = atI b k)) = false := by simp
 have f7 : LV.int i64 (IntKind.wrap i64 ((↑k : Int) + 1)) = LV.int i64 ((↑k : Int) + 1) := by simp (disch := omega)
 have f8 := hr
 exact dlp (fun h => ai (congrArg LV.bool f1) <| ai (f3) <| ai (f2) <| ai (f5) <| ai (f4) <| ai (congrArg LV.bool f6) <| ai (f7) <| ai (Eq.refl (tidyOf f8)) <| ai (f8) <| h) (.i (.s (.s (.a) (.b true (.a))) (.s (.k (.s (.d [] [.a, .a, .e (rOf f2), .a, .a, .a, .e (rOf f4), .a] [] []) (.b false (.a)))) (.r [.a, .v (vOf f7) (.a)]))) (.h [] (eOf f8) (stOf f8) (rOf f8))) (by kernel_rfl)
theorem same_stop (n fu : Nat) (a b : List Int) (hb : a.length ≤ 100000) (hl : b.length = a.length) (k : Nat) (hi : k < a.length) (he : ¬ atI a k = atI b k) :
  loopAt prog C0 (n + 20) 21 0 0 (fu + 1) (smE a b k) ⟨0, []⟩ = some (.ret, smF a b k, ⟨0, []⟩) := by
 have f1 : decide ((↑k : Int) < ((bys a).length : Int)) = true := by simp; omega
 have f2 : (bys a)[Int.toNat (↑k : Int)]? = some (LV.int IntKind.u8 (atI a k)) := by simp (disch := omega)
 have f3 : 0 ≤ (↑k : Int) ∧ (↑k : Int) < ((bys a).length : Int) := by simp; omega
 have f4 : (bys b)[Int.toNat (↑k : Int)]? = some (LV.int IntKind.u8 (atI b k)) := by simp (disch := omega)
 have f5 : 0 ≤ (↑k : Int) ∧ (↑k : Int) < ((bys b).length : Int) := by simp; omega
 have f6 : (!decide (atI a k = atI b k)) = true := by simp; omega
 exact dlp (fun h => ai (congrArg LV.bool f1) <| ai (f3) <| ai (f2) <| ai (f5) <| ai (f4) <| ai (congrArg LV.bool f6) <| h) (.i (.s (.s (.a) (.b true (.a))) (.s (.k (.s (.d [] [.a, .a, .e (rOf f2), .a, .a, .a, .e (rOf f4), .a] [] []) (.b true (.a)))) .a)) (.a)) (by kernel_rfl)
theorem same_thru (n : Nat) (a b : List Int) (hb : a.length ≤ 100000) (hl : b.length = a.length) (L : loopAt prog C0 (n + 20) 21 0 0 (n + 20) (smE a b 0) ⟨0, []⟩ = some (.exit 0, smX a b a.length, ⟨0, []⟩)) :
  lrun prog C0 (lcall prog C0 (n + 20)) (n + 20) 21 [.isl 1 (bys a), .isl 1 (bys b)] ⟨0, []⟩ = some (.bool true, ⟨0, []⟩) := by
 have f1 : (!decide (((bys a).length : Int) = ((bys b).length : Int))) = false := by simp; omega
 have f2 := L
 exact drn (fun h => ai (congrArg LV.bool f1) <| ai (Eq.refl (tidyOf f2)) <| ai (f2) <| h) (.s (.a) (.s (.s (.a) (.b false (.a))) (.s (.s (.a) (.k (.l (.h [] (eOf f2) (stOf f2) (rOf f2))))) (.a)))) [] .a (by kernel_rfl)
theorem same_not (n k : Nat) (a b : List Int) (hb : a.length ≤ 100000) (hl : b.length = a.length) (L : loopAt prog C0 (n + 20) 21 0 0 (n + 20) (smE a b 0) ⟨0, []⟩ = some (.ret, smF a b k, ⟨0, []⟩)) :
  lrun prog C0 (lcall prog C0 (n + 20)) (n + 20) 21 [.isl 1 (bys a), .isl 1 (bys b)] ⟨0, []⟩ = some (.bool false, ⟨0, []⟩) := by
 have f1 : (!decide (((bys a).length : Int) = ((bys b).length : Int))) = false := by simp; omega
 have f2 := L
 exact drn (fun h => ai (congrArg LV.bool f1) <| ai (Eq.refl (tidyOf f2)) <| ai (f2) <| h) (.s (.a) (.s (.s (.a) (.b false (.a))) (.s (.s (.a) (.k (.l (.h [] (eOf f2) (stOf f2) (rOf f2))))) .a))) [] .a (by kernel_rfl)
theorem same_len (n : Nat) (a b : List Int) (hb : a.length ≤ 100000) (hb2 : b.length ≤ 100000) (hl : ¬ a.length = b.length) :
  lrun prog C0 (lcall prog C0 (n + 20)) (n + 20) 21 [.isl 1 (bys a), .isl 1 (bys b)] ⟨0, []⟩ = some (.bool false, ⟨0, []⟩) := by
 have f1 : (!decide (((bys a).length : Int) = ((bys b).length : Int))) = true := by simp; omega
 exact drn (fun h => ai (congrArg LV.bool f1) <| h) (.s (.a) (.s (.s (.a) (.b true (.a))) .a)) [] .a (by kernel_rfl)
theorem ext_atI : ∀ {a b : List Int}, b.length = a.length → (∀ k, k < a.length → atI a k = atI b k) → a = b
 | [], [], _, _ => rfl
 | [], _ :: _, h, _ => by simp at h
 | _ :: _, [], h, _ => by simp at h
 | x :: a, y :: b, h, hk => by
  have h0 := hk 0 (by simp)
  have : a = b := ext_atI (by simpa using h) (fun k hk2 => by simpa [atI] using hk (k + 1) (by simpa using hk2))
  simp [atI] at h0
  rw [h0, this]
theorem same_loop (n : Nat) (a b : List Int) (hb : a.length ≤ 100000) (hl : b.length = a.length) : ∀ (j k fu : Nat), k + j = a.length → j < fu →
  ((∀ i, k ≤ i → i < a.length → atI a i = atI b i) → loopAt prog C0 (n + 20) 21 0 0 fu (smE a b k) ⟨0, []⟩ = some (.exit 0, smX a b a.length, ⟨0, []⟩)) ∧
  ((¬ ∀ i, k ≤ i → i < a.length → atI a i = atI b i) → ∃ q, loopAt prog C0 (n + 20) 21 0 0 fu (smE a b k) ⟨0, []⟩ = some (.ret, smF a b q, ⟨0, []⟩))
 | 0, k, fu, hk, hf => by
  obtain ⟨fu, rfl⟩ : ∃ q, fu = q + 1 := ⟨fu - 1, by omega⟩
  obtain rfl : k = a.length := by omega
  exact ⟨fun _ => same_end n fu a b hb _ (by omega), fun h => absurd (fun i h1 h2 => by omega) h⟩
 | j + 1, k, fu, hk, hf => by
  obtain ⟨fu, rfl⟩ : ∃ q, fu = q + 1 := ⟨fu - 1, by omega⟩
  obtain ⟨ih1, ih2⟩ := same_loop n a b hb hl j (k + 1) fu (by omega) (by omega)
  by_cases he : atI a k = atI b k
  ·refine ⟨fun h => same_step n fu a b hb hl k (by omega) he _ (ih1 fun i h1 h2 => h i (by omega) h2), fun h => ?_⟩
   obtain ⟨q, hq⟩ := ih2 (fun h' => h fun i h1 h2 => by
    rcases Nat.eq_or_lt_of_le h1 with rfl | h3
    ·exact he
    ·exact h' i h3 h2)
   exact ⟨q, same_step n fu a b hb hl k (by omega) he _ hq⟩
  ·exact ⟨fun h => absurd (h k (Nat.le_refl _) (by omega)) he, fun _ => ⟨k, same_stop n fu a b hb hl k (by omega) he⟩⟩
theorem same_any (n : Nat) (a b : List Int) (ha : a.length ≤ 100000) (hb : b.length ≤ 100000) (hn : a.length < n + 20) :
  lrun prog C0 (lcall prog C0 (n + 20)) (n + 20) 21 [.isl 1 (bys a), .isl 1 (bys b)] ⟨0, []⟩ = some (.bool (decide (a = b)), ⟨0, []⟩) := by
 by_cases hl : a.length = b.length
 ·obtain ⟨h1, h2⟩ := same_loop n a b ha hl.symm a.length 0 (n + 20) (by omega) (by omega)
  by_cases he : a = b
  ·have := same_thru n a b ha hl.symm (h1 (by subst he; intros; rfl))
   rw [this]; simp [he]
  ·obtain ⟨q, hq⟩ := h2 (fun h => he (ext_atI hl.symm fun k hk => h k (Nat.zero_le _) hk))
   have := same_not n q a b ha hl.symm hq
   rw [this]; simp [he]
 ·have := same_len n a b ha hb hl
  rw [this]
  have : ¬ a = b := fun h => hl (by rw [h])
  simp [this]
abbrev rNil (rm : Int) : LV := .agg [.int .i64 rm, .nils, .nils]
abbrev rE (rm : Int) (l : List LV) : LV := .agg [.int .i64 rm, .isl 2 [], .isl 3 l]
abbrev opA (k at_ : Int) (b ks : List Int) (cut : Int) : LV := .agg [.int .i64 k, .int .i64 at_, .isl 1 (bys b), .isl 1 (ints ks), .int .i64 cut]
abbrev wrL (a : Int) (b : List Int) : LV := .agg [.int .i64 a, .bool false, .isl 1 (bys b)]
abbrev wrF (a : Int) : LV := .agg [.int .i64 a, .bool true, .nils]
theorem find_nil1 (a : Int) : lrun prog Ck (lcall prog Ck 599) 599 37 [.nils, .int .i64 a] ⟨0, []⟩ = some (.tup [.isl 1 [], .bool false], ⟨0, []⟩) := by
 exact drn (fun h => h) (.a) [] .a (by kernel_rfl)
theorem find_nil0 (n : Nat) (a : Int) : lrun prog C0 (lcall prog C0 (n + 10)) (n + 10) 37 [.nils, .int .i64 a] ⟨0, []⟩ = some (.tup [.isl 1 [], .bool false], ⟨0, []⟩) :=
 x_runx (C := C0) (G := via 37) rfl (lcall_nil («as» := [.nils, .int .i64 a]) rfl (find_nil1 a)) (by kernel_rfl)
theorem crash_nil1 (rm : Int) (ks : List Int) (cut : Int) : lrun prog Ck (lcall prog Ck 599) 599 31 [rNil rm, .isl 1 (ints ks), .int .i64 cut] ⟨0, []⟩ = some (rE rm [], ⟨0, []⟩) := by
 exact drn (fun h => h) (.a) [] .a (by kernel_rfl)
theorem crash_nil0 (n : Nat) (rm : Int) (ks : List Int) (cut : Int) : lrun prog C0 (lcall prog C0 (n + 10)) (n + 10) 31 [rNil rm, .isl 1 (ints ks), .int .i64 cut] ⟨0, []⟩ = some (rE rm [], ⟨0, []⟩) :=
 x_runx (C := C0) (G := via 31) rfl (lcall_nil («as» := [rNil rm, .isl 1 (ints ks), .int .i64 cut]) rfl (crash_nil1 rm ks cut)) (by kernel_rfl)
theorem do_write_bad (n : Nat) (at_ cut : Int) (b ks : List Int) (rm : Int) (m : ML) (p : PL) (h : at_ < 0 ∨ 1073741824 < at_) :
  lrun prog C0 (lcall prog C0 (n + 80)) (n + 80) 10 [.ptr 0 0, rNil rm, opA 0 at_ b ks cut] ⟨1, [(0, dO rm m p)]⟩ = some (.tup [rE rm [], .bool true], ⟨1, [(0, dO rm m p)]⟩) := by
 rcases h with h | h
 ·have f1 : decide (0 ≤ at_) = false := by simp; omega
  have f2 : lpick (decide (0 ≤ at_)) LV.any (LV.bool false) = some (LV.bool false) := by simp; omega
  have f3 : lrun prog C0 (lcall prog C0 (n + 78)) (n + 78) 46 [.int i64 at_] (St.mk 0 []) = some (LV.bool false, St.mk 0 []) := drn (fun h => ai (congrArg some f1) <| ai (congrArg some f1) <| ai (x_map (st := (St.mk 0 [])) f2) <| h) (.s (.a) (.s (.r [.a, .a, .a, .g false (.a), .g false (.a), .t (rOf (x_map (st := (St.mk 0 [])) f2))]) (.a))) [] .a (by kernel_rfl)
  have f4 : lrun prog C0 (lcall prog C0 (n + 79)) (n + 79) 26 [.agg [.int i64 rm, .nils, .nils], .int i64 at_, .isl 1 (bys b)] (St.mk 0 []) = some (LV.tup [.agg [.int i64 rm, .isl 2 [], .isl 3 []], .int i64 2], St.mk 0 []) := drn (fun h => ai (f3) <| h) (.s (.a) (.s (.s (.r [.a, .f (rOf f3)]) (.a)) .a)) [] .a (by kernel_rfl)
  have f5 : LObj.map i64 (List.zip (mapK m) (mapV m)) = LObj.map i64 (mapE m) := by simp
  have f6 : LObj.box 64 [.int i64 rm, .map 5, .sl 2 6 0 (List.length (pnds p)) none] = LObj.box 64 [.int i64 rm, .map 5, .sl 2 6 0 (List.length p) none] := by simp
  have f7 : List.length (pnds p) = List.length p := by simp
  have f8 : LObj.box 64 [.int i64 rm, .omap i64 (List.map (·.1) (mapE m)) (List.map (·.2) (mapE m)), .own 90 2 (pnds p)] = LObj.box 64 [.int i64 rm, .omap i64 (mapK m) (mapV m), .own 90 2 (pnds p)] := by simp
  have f9 := write_bad (n + 59) at_ b rm m p (by omega)
  have f10 := of_code (n + 59) [98, 108, 111, 99, 107] at_ 2
  have f11 : LV.eqb (LV.agg [.int i64 rm, .isl 2 [], .isl 3 []]) (LV.agg [.int i64 rm, .isl 2 [], .isl 3 []]) = true := by simp
  exact drn (fun h => ai (f4) <| ai (congrArg some f5) <| ai (congrArg some f6) <| ai (f7) <| ai (congrArg some f8) <| ai (f9) <| ai (f10) <| ai (f11) <| ai (f11) <| h) (.s (.a) (.s (.s (.a) (.k (.s (.a) (.c (.s (.r [.a, .a, .a, .a, .a, .f (rOf f4)]) (.s (.d [.x 5 (vOf f5), .x 0 (vOf f6)] [.a, .a, .a, .a, .a, .a, .fr .q [.x 0 (vOf f8)] (rOf f9), .f (rOf f10), .a, .a, .a] [(true, .a), (true, .a)] []) (.a))))))) .a)) [] .a (by kernel_rfl)
 ·have f1 : decide (0 ≤ at_) = true := by simp; omega
  have f2 : LV.bool (if decide (0 ≤ at_) = true then decide (at_ ≤ 1073741824) else false) = LV.bool false := by simp; omega
  have f3 : lrun prog C0 (lcall prog C0 (n + 78)) (n + 78) 46 [.int i64 at_] (St.mk 0 []) = some (LV.bool false, St.mk 0 []) := drn (fun h => ai (congrArg some f1) <| ai (congrArg some f1) <| ai (f2) <| h) (.s (.a) (.s (.r [.a, .a, .a, .g true (.a), .g true (.a), .v (vOf f2) (.a)]) (.a))) [] .a (by kernel_rfl)
  have f4 : lrun prog C0 (lcall prog C0 (n + 79)) (n + 79) 26 [.agg [.int i64 rm, .nils, .nils], .int i64 at_, .isl 1 (bys b)] (St.mk 0 []) = some (LV.tup [.agg [.int i64 rm, .isl 2 [], .isl 3 []], .int i64 2], St.mk 0 []) := drn (fun h => ai (f3) <| h) (.s (.a) (.s (.s (.r [.a, .f (rOf f3)]) (.a)) .a)) [] .a (by kernel_rfl)
  have f5 : LObj.map i64 (List.zip (mapK m) (mapV m)) = LObj.map i64 (mapE m) := by simp
  have f6 : LObj.box 64 [.int i64 rm, .map 5, .sl 2 6 0 (List.length (pnds p)) none] = LObj.box 64 [.int i64 rm, .map 5, .sl 2 6 0 (List.length p) none] := by simp
  have f7 : List.length (pnds p) = List.length p := by simp
  have f8 : LObj.box 64 [.int i64 rm, .omap i64 (List.map (·.1) (mapE m)) (List.map (·.2) (mapE m)), .own 90 2 (pnds p)] = LObj.box 64 [.int i64 rm, .omap i64 (mapK m) (mapV m), .own 90 2 (pnds p)] := by simp
  have f9 := write_bad (n + 59) at_ b rm m p (by omega)
  have f10 := of_code (n + 59) [98, 108, 111, 99, 107] at_ 2
  have f11 : LV.eqb (LV.agg [.int i64 rm, .isl 2 [], .isl 3 []]) (LV.agg [.int i64 rm, .isl 2 [], .isl 3 []]) = true := by simp
  exact drn (fun h => ai (f4) <| ai (congrArg some f5) <| ai (congrArg some f6) <| ai (f7) <| ai (congrArg some f8) <| ai (f9) <| ai (f10) <| ai (f11) <| ai (f11) <| h) (.s (.a) (.s (.s (.a) (.k (.s (.a) (.c (.s (.r [.a, .a, .a, .a, .a, .f (rOf f4)]) (.s (.d [.x 5 (vOf f5), .x 0 (vOf f6)] [.a, .a, .a, .a, .a, .a, .fr .q [.x 0 (vOf f8)] (rOf f9), .f (rOf f10), .a, .a, .a] [(true, .a), (true, .a)] []) (.a))))))) .a)) [] .a (by kernel_rfl)
theorem do_write_long (n : Nat) (at_ cut : Int) (b ks : List Int) (rm : Int) (m : ML) (p : PL) (h0 : 0 ≤ at_) (h1 : at_ ≤ 1073741824) (hb : 64 < b.length) (hb2 : b.length ≤ 1000000) :
  lrun prog C0 (lcall prog C0 (n + 80)) (n + 80) 10 [.ptr 0 0, rNil rm, opA 0 at_ b ks cut] ⟨1, [(0, dO rm m p)]⟩ = some (.tup [rE rm [], .bool true], ⟨1, [(0, dO rm m p)]⟩) := by
 have f1 : decide (0 ≤ at_) = true := by simp; omega
 have f2 : LV.bool (if decide (0 ≤ at_) = true then decide (at_ ≤ 1073741824) else false) = LV.bool true := by simp; omega
 have f3 : lrun prog C0 (lcall prog C0 (n + 78)) (n + 78) 46 [.int i64 at_] (St.mk 0 []) = some (LV.bool true, St.mk 0 []) := drn (fun h => ai (congrArg some f1) <| ai (congrArg some f1) <| ai (f2) <| h) (.s (.a) (.s (.r [.a, .a, .a, .g true (.a), .g true (.a), .v (vOf f2) (.a)]) (.a))) [] .a (by kernel_rfl)
 have f4 : decide (64 < ((bys b).length : Int)) = true := by simp; omega
 have f5 : lrun prog C0 (lcall prog C0 (n + 79)) (n + 79) 26 [.agg [.int i64 rm, .nils, .nils], .int i64 at_, .isl 1 (bys b)] (St.mk 0 []) = some (LV.tup [.agg [.int i64 rm, .isl 2 [], .isl 3 []], .int i64 6], St.mk 0 []) := drn (fun h => ai (f3) <| ai (congrArg LV.bool f4) <| h) (.s (.a) (.s (.s (.r [.a, .f (rOf f3)]) (.a)) (.s (.s (.a) (.b true (.a))) .a))) [] .a (by kernel_rfl)
 have f6 : LObj.map i64 (List.zip (mapK m) (mapV m)) = LObj.map i64 (mapE m) := by simp
 have f7 : LObj.box 64 [.int i64 rm, .map 5, .sl 2 6 0 (List.length (pnds p)) none] = LObj.box 64 [.int i64 rm, .map 5, .sl 2 6 0 (List.length p) none] := by simp
 have f8 : List.length (pnds p) = List.length p := by simp
 have f9 : LObj.box 64 [.int i64 rm, .omap i64 (List.map (·.1) (mapE m)) (List.map (·.2) (mapE m)), .own 90 2 (pnds p)] = LObj.box 64 [.int i64 rm, .omap i64 (mapK m) (mapV m), .own 90 2 (pnds p)] := by simp
 have f10 := write_long (n + 59) at_ b rm m p h0 h1 hb hb2
 have f11 := of_code (n + 59) [115, 105, 122, 101] ((b.length : Int)) 6
 have f12 : LV.eqb (LV.agg [.int i64 rm, .isl 2 [], .isl 3 []]) (LV.agg [.int i64 rm, .isl 2 [], .isl 3 []]) = true := by simp
 exact drn (fun h => ai (f5) <| ai (congrArg some f6) <| ai (congrArg some f7) <| ai (f8) <| ai (congrArg some f9) <| ai (f10) <| ai (f11) <| ai (f12) <| ai (f12) <| h) (.s (.a) (.s (.s (.a) (.k (.s (.a) (.c (.s (.r [.a, .a, .a, .a, .a, .f (rOf f5)]) (.s (.d [.x 5 (vOf f6), .x 0 (vOf f7)] [.a, .a, .a, .a, .a, .a, .fr .q [.x 0 (vOf f9)] (rOf f10), .f (rOf f11), .a, .a, .a] [(true, .a), (true, .a)] []) (.a))))))) .a)) [] .a (by kernel_rfl)
theorem do_write_full0 (n : Nat) (at_ cut : Int) (b ks : List Int) (rm : Int) (m : ML) (p : PL) (h0 : 0 ≤ at_) (h1 : at_ ≤ 1073741824) (hb : b.length ≤ 64) (hr : rm ≤ 0)
  (W : ∀ k, lrun prog C0 (lcall prog C0 (k + 20)) (k + 20) 19 [.ptr 0 0, .int .i64 at_, .isl 1 (bys b)] ⟨1, [(0, dO rm m p)]⟩ = some (flt [98,108,111,99,107] at_ 7, ⟨1, [(0, dO rm m p)]⟩)) :
  lrun prog C0 (lcall prog C0 (n + 80)) (n + 80) 10 [.ptr 0 0, rNil rm, opA 0 at_ b ks cut] ⟨1, [(0, dO rm m p)]⟩ = some (.tup [rE rm [], .bool true], ⟨1, [(0, dO rm m p)]⟩) := by
 have f1 : decide (0 ≤ at_) = true := by simp; omega
 have f2 : LV.bool (if decide (0 ≤ at_) = true then decide (at_ ≤ 1073741824) else false) = LV.bool true := by simp; omega
 have f3 : lrun prog C0 (lcall prog C0 (n + 78)) (n + 78) 46 [.int i64 at_] (St.mk 0 []) = some (LV.bool true, St.mk 0 []) := drn (fun h => ai (congrArg some f1) <| ai (congrArg some f1) <| ai (f2) <| h) (.s (.a) (.s (.r [.a, .a, .a, .g true (.a), .g true (.a), .v (vOf f2) (.a)]) (.a))) [] .a (by kernel_rfl)
 have f4 : decide (64 < ((bys b).length : Int)) = false := by simp; omega
 have f5 : lrun prog C0 (lcall prog C0 (n + 78)) (n + 78) 47 [.agg [.int i64 rm, .nils, .nils], .int i64 at_] (St.mk 0 []) = some (LV.bool false, St.mk 0 []) := by kernel_rfl
 have f6 : lrun prog C0 (lcall prog C0 (n + 78)) (n + 78) 15 [.agg [.int i64 rm, .nils, .nils]] (St.mk 0 []) = some (LV.int i64 0, St.mk 0 []) := by kernel_rfl
 have f7 : LV.bool (if true = true then decide (rm ≤ 0) else false) = LV.bool true := by simp; omega
 have f8 : lrun prog C0 (lcall prog C0 (n + 79)) (n + 79) 26 [.agg [.int i64 rm, .nils, .nils], .int i64 at_, .isl 1 (bys b)] (St.mk 0 []) = some (LV.tup [.agg [.int i64 rm, .isl 2 [], .isl 3 []], .int i64 7], St.mk 0 []) := drn (fun h => ai (f3) <| ai (congrArg LV.bool f4) <| ai (f5) <| ai (f6) <| ai (f7) <| h) (.s (.a) (.s (.s (.r [.a, .f (rOf f3)]) (.a)) (.s (.s (.a) (.b false (.a))) (.s (.s (.d [] [.a, .a, .f (rOf f5), .a, .a, .a, .f (rOf f6), .a, .a] [] [.a, .v (vOf f7) (.a)]) (.a)) .a)))) [] .a (by kernel_rfl)
 have f9 : LObj.map i64 (List.zip (mapK m) (mapV m)) = LObj.map i64 (mapE m) := by simp
 have f10 : LObj.box 64 [.int i64 rm, .map 5, .sl 2 6 0 (List.length (pnds p)) none] = LObj.box 64 [.int i64 rm, .map 5, .sl 2 6 0 (List.length p) none] := by simp
 have f11 : List.length (pnds p) = List.length p := by simp
 have f12 : LObj.box 64 [.int i64 rm, .omap i64 (List.map (·.1) (mapE m)) (List.map (·.2) (mapE m)), .own 90 2 (pnds p)] = LObj.box 64 [.int i64 rm, .omap i64 (mapK m) (mapV m), .own 90 2 (pnds p)] := by simp
 have f13 := W (n + 59)
 have f14 := of_code (n + 59) [98, 108, 111, 99, 107] at_ 7
 have f15 : LV.eqb (LV.agg [.int i64 rm, .isl 2 [], .isl 3 []]) (LV.agg [.int i64 rm, .isl 2 [], .isl 3 []]) = true := by simp
 exact drn (fun h => ai (f8) <| ai (congrArg some f9) <| ai (congrArg some f10) <| ai (f11) <| ai (congrArg some f12) <| ai (f13) <| ai (f14) <| ai (f15) <| ai (f15) <| h) (.s (.a) (.s (.s (.a) (.k (.s (.a) (.c (.s (.r [.a, .a, .a, .a, .a, .f (rOf f8)]) (.s (.d [.x 5 (vOf f9), .x 0 (vOf f10)] [.a, .a, .a, .a, .a, .a, .fr .q [.x 0 (vOf f12)] (rOf f13), .f (rOf f14), .a, .a, .a] [(true, .a), (true, .a)] []) (.a))))))) .a)) [] .a (by kernel_rfl)
theorem do_write_ok (n : Nat) (at_ cut : Int) (b ks : List Int) (rm : Int) (m : ML) (p p' : PL) (h0 : 0 ≤ at_) (h1 : at_ ≤ 1073741824) (hb : b.length ≤ 64) (hr : 0 < rm)
  (W : ∀ k, lrun prog C0 (lcall prog C0 (k + 20)) (k + 20) 19 [.ptr 0 0, .int .i64 at_, .isl 1 (bys b)] ⟨1, [(0, dO rm m p)]⟩ = some (.nili, ⟨1, [(0, dO rm m p')]⟩)) :
  lrun prog C0 (lcall prog C0 (n + 80)) (n + 80) 10 [.ptr 0 0, rNil rm, opA 0 at_ b ks cut] ⟨1, [(0, dO rm m p)]⟩ = some (.tup [rE rm [wrL at_ (blk b)], .bool true], ⟨1, [(0, dO rm m p')]⟩) := by
 have f1 : decide (0 ≤ at_) = true := by simp; omega
 have f2 : LV.bool (if decide (0 ≤ at_) = true then decide (at_ ≤ 1073741824) else false) = LV.bool true := by simp; omega
 have f3 : lrun prog C0 (lcall prog C0 (n + 78)) (n + 78) 46 [.int i64 at_] (St.mk 0 []) = some (LV.bool true, St.mk 0 []) := drn (fun h => ai (congrArg some f1) <| ai (congrArg some f1) <| ai (f2) <| h) (.s (.a) (.s (.r [.a, .a, .a, .g true (.a), .g true (.a), .v (vOf f2) (.a)]) (.a))) [] .a (by kernel_rfl)
 have f4 : decide (64 < ((bys b).length : Int)) = false := by simp; omega
 have f5 : lrun prog C0 (lcall prog C0 (n + 78)) (n + 78) 47 [.agg [.int i64 rm, .nils, .nils], .int i64 at_] (St.mk 0 []) = some (LV.bool false, St.mk 0 []) := by kernel_rfl
 have f6 : lrun prog C0 (lcall prog C0 (n + 78)) (n + 78) 15 [.agg [.int i64 rm, .nils, .nils]] (St.mk 0 []) = some (LV.int i64 0, St.mk 0 []) := by kernel_rfl
 have f7 : LV.bool (if true = true then decide (rm ≤ 0) else false) = LV.bool false := by simp; omega
 have f8 := pad_ok (n + 58) b hb (by omega)
 have f9 : lrun prog C0 (lcall prog C0 (n + 79)) (n + 79) 26 [.agg [.int i64 rm, .nils, .nils], .int i64 at_, .isl 1 (bys b)] (St.mk 0 []) = some (LV.tup [.agg [.int i64 rm, .isl 2 [], .isl 3 (List.take 1 (List.drop 0 ([] ++ List.take 1 (List.drop 0 (List.set [.agg [.int i64 0, .bool false, .nils]] 0 (LV.agg [.int i64 at_, .bool false, .isl 1 (bys (blk b))]))))))], .int i64 0], St.mk 0 []) := drn (fun h => ai (f3) <| ai (congrArg LV.bool f4) <| ai (f5) <| ai (f6) <| ai (f7) <| ai (f8) <| h) (.s (.a) (.s (.s (.r [.a, .f (rOf f3)]) (.a)) (.s (.s (.a) (.b false (.a))) (.s (.s (.d [] [.a, .a, .f (rOf f5), .a, .a, .a, .f (rOf f6), .a, .a] [] [.a, .v (vOf f7) (.a)]) (.a)) (.s (.d [] [.a, .a, .a, .f (rOf f8), .a] [] []) (.a)))))) [] .a (by kernel_rfl)
 have f10 : LV.tup [.agg [.int i64 rm, .isl 2 [], .isl 3 (List.take 1 (List.drop 0 ([] ++ List.take 1 (List.drop 0 (List.set [.agg [.int i64 0, .bool false, .nils]] 0 (LV.agg [.int i64 at_, .bool false, .isl 1 (bys (blk b))]))))))], .int i64 0] = LV.tup [.agg [.int i64 rm, .isl 2 [], .isl 3 [.agg [.int i64 at_, .bool false, .isl 1 (bys (blk b))]]], .int i64 0] := by simp
 have f11 : LV.agg [.int i64 rm, .isl 2 [], .isl 3 (List.take 1 (List.drop 0 ([] ++ List.take 1 (List.drop 0 (List.set [.agg [.int i64 0, .bool false, .nils]] 0 (LV.agg [.int i64 at_, .bool false, .isl 1 (bys (blk b))]))))))] = LV.agg [.int i64 rm, .isl 2 [], .isl 3 [.agg [.int i64 at_, .bool false, .isl 1 (bys (blk b))]]] := by simp
 have f12 : LObj.map i64 (List.zip (mapK m) (mapV m)) = LObj.map i64 (mapE m) := by simp
 have f13 : LObj.box 35 [.int i64 rm, .isl 2 [], .isl 3 (List.take 1 (List.drop 0 ([] ++ List.take 1 (List.drop 0 (List.set [.agg [.int i64 0, .bool false, .nils]] 0 (LV.agg [.int i64 at_, .bool false, .isl 1 (bys (blk b))]))))))] = LObj.box 35 [.int i64 rm, .isl 2 [], .isl 3 [.agg [.int i64 at_, .bool false, .isl 1 (bys (blk b))]]] := by simp
 have f14 : LObj.box 64 [.int i64 rm, .map 5, .sl 2 6 0 (List.length (pnds p)) none] = LObj.box 64 [.int i64 rm, .map 5, .sl 2 6 0 (List.length p) none] := by simp
 have f15 : List.length (pnds p) = List.length p := by simp
 have f16 : LObj.box 64 [.int i64 rm, .omap i64 (List.map (·.1) (mapE m)) (List.map (·.2) (mapE m)), .own 90 2 (pnds p)] = LObj.box 64 [.int i64 rm, .omap i64 (mapK m) (mapV m), .own 90 2 (pnds p)] := by simp
 have f17 := W (n + 59)
 have f18 := of_nil (n + 59)
 have f19 : LV.eqb (LV.agg [.int i64 rm, .isl 2 [], .isl 3 [.agg [.int i64 at_, .bool false, .isl 1 (bys (blk b))]]]) (LV.agg [.int i64 rm, .isl 2 [], .isl 3 [.agg [.int i64 at_, .bool false, .isl 1 (bys (blk b))]]]) = true := by simp
 exact drn (fun h => ai (f9) <| ai (f10) <| ai (f10) <| ai (f11) <| ai (congrArg some f12) <| ai (congrArg some f13) <| ai (congrArg some f14) <| ai (f15) <| ai (congrArg some f16) <| ai (f17) <| ai (f18) <| ai (f19) <| ai (f19) <| h) (.s (.a) (.s (.s (.a) (.k (.s (.a) (.c (.s (.r [.a, .a, .a, .a, .a, .f (rOf f9)]) (.s (.d [.y 20 (vOf f10), .y 26 (vOf f10), .y 27 (vOf f11), .x 5 (vOf f12), .x 4 (vOf f13), .x 0 (vOf f14)] [.a, .a, .a, .a, .a, .a, .fr .q [.x 0 (vOf f16)] (rOf f17), .f (rOf f18), .a, .a, .a] [(true, .a), (true, .a)] []) (.a))))))) .a)) [] .a (by kernel_rfl)
theorem do_free_bad (n : Nat) (at_ cut : Int) (b ks : List Int) (rm : Int) (m : ML) (p : PL) (h : at_ < 0 ∨ 1073741824 < at_) :
  lrun prog C0 (lcall prog C0 (n + 80)) (n + 80) 10 [.ptr 0 0, rNil rm, opA 1 at_ b ks cut] ⟨1, [(0, dO rm m p)]⟩ = some (.tup [rE rm [], .bool true], ⟨1, [(0, dO rm m p)]⟩) := by
 rcases h with h | h
 ·have f1 : decide (0 ≤ at_) = false := by simp; omega
  have f2 : lpick (decide (0 ≤ at_)) LV.any (LV.bool false) = some (LV.bool false) := by simp; omega
  have f3 : lrun prog C0 (lcall prog C0 (n + 78)) (n + 78) 46 [.int i64 at_] (St.mk 0 []) = some (LV.bool false, St.mk 0 []) := drn (fun h => ai (congrArg some f1) <| ai (congrArg some f1) <| ai (x_map (st := (St.mk 0 [])) f2) <| h) (.s (.a) (.s (.r [.a, .a, .a, .g false (.a), .g false (.a), .t (rOf (x_map (st := (St.mk 0 [])) f2))]) (.a))) [] .a (by kernel_rfl)
  have f4 : lrun prog C0 (lcall prog C0 (n + 79)) (n + 79) 28 [.agg [.int i64 rm, .nils, .nils], .int i64 at_] (St.mk 0 []) = some (LV.tup [.agg [.int i64 rm, .isl 2 [], .isl 3 []], .int i64 2], St.mk 0 []) := drn (fun h => ai (f3) <| h) (.s (.a) (.s (.s (.r [.a, .f (rOf f3)]) (.a)) .a)) [] .a (by kernel_rfl)
  have f5 : LObj.map i64 (List.zip (mapK m) (mapV m)) = LObj.map i64 (mapE m) := by simp
  have f6 : LObj.box 64 [.int i64 rm, .map 5, .sl 2 6 0 (List.length (pnds p)) none] = LObj.box 64 [.int i64 rm, .map 5, .sl 2 6 0 (List.length p) none] := by simp
  have f7 : List.length (pnds p) = List.length p := by simp
  have f8 : LObj.box 64 [.int i64 rm, .omap i64 (List.map (·.1) (mapE m)) (List.map (·.2) (mapE m)), .own 90 2 (pnds p)] = LObj.box 64 [.int i64 rm, .omap i64 (mapK m) (mapV m), .own 90 2 (pnds p)] := by simp
  have f9 := free_bad (n + 59) at_ rm m p (by omega)
  have f10 := of_code (n + 59) [98, 108, 111, 99, 107] at_ 2
  have f11 : LV.eqb (LV.agg [.int i64 rm, .isl 2 [], .isl 3 []]) (LV.agg [.int i64 rm, .isl 2 [], .isl 3 []]) = true := by simp
  exact drn (fun h => ai (f4) <| ai (congrArg some f5) <| ai (congrArg some f6) <| ai (f7) <| ai (congrArg some f8) <| ai (f9) <| ai (f10) <| ai (f11) <| ai (f11) <| h) (.s (.a) (.s (.s (.a) (.k (.s (.a) (.c (.s (.a) (.c (.s (.r [.a, .a, .a, .f (rOf f4)]) (.s (.d [.x 5 (vOf f5), .x 0 (vOf f6)] [.a, .a, .a, .a, .fr .q [.x 0 (vOf f8)] (rOf f9), .f (rOf f10), .a, .a, .a] [(true, .a), (true, .a)] []) (.a))))))))) .a)) [] .a (by kernel_rfl)
 ·have f1 : decide (0 ≤ at_) = true := by simp; omega
  have f2 : LV.bool (if decide (0 ≤ at_) = true then decide (at_ ≤ 1073741824) else false) = LV.bool false := by simp; omega
  have f3 : lrun prog C0 (lcall prog C0 (n + 78)) (n + 78) 46 [.int i64 at_] (St.mk 0 []) = some (LV.bool false, St.mk 0 []) := drn (fun h => ai (congrArg some f1) <| ai (congrArg some f1) <| ai (f2) <| h) (.s (.a) (.s (.r [.a, .a, .a, .g true (.a), .g true (.a), .v (vOf f2) (.a)]) (.a))) [] .a (by kernel_rfl)
  have f4 : lrun prog C0 (lcall prog C0 (n + 79)) (n + 79) 28 [.agg [.int i64 rm, .nils, .nils], .int i64 at_] (St.mk 0 []) = some (LV.tup [.agg [.int i64 rm, .isl 2 [], .isl 3 []], .int i64 2], St.mk 0 []) := drn (fun h => ai (f3) <| h) (.s (.a) (.s (.s (.r [.a, .f (rOf f3)]) (.a)) .a)) [] .a (by kernel_rfl)
  have f5 : LObj.map i64 (List.zip (mapK m) (mapV m)) = LObj.map i64 (mapE m) := by simp
  have f6 : LObj.box 64 [.int i64 rm, .map 5, .sl 2 6 0 (List.length (pnds p)) none] = LObj.box 64 [.int i64 rm, .map 5, .sl 2 6 0 (List.length p) none] := by simp
  have f7 : List.length (pnds p) = List.length p := by simp
  have f8 : LObj.box 64 [.int i64 rm, .omap i64 (List.map (·.1) (mapE m)) (List.map (·.2) (mapE m)), .own 90 2 (pnds p)] = LObj.box 64 [.int i64 rm, .omap i64 (mapK m) (mapV m), .own 90 2 (pnds p)] := by simp
  have f9 := free_bad (n + 59) at_ rm m p (by omega)
  have f10 := of_code (n + 59) [98, 108, 111, 99, 107] at_ 2
  have f11 : LV.eqb (LV.agg [.int i64 rm, .isl 2 [], .isl 3 []]) (LV.agg [.int i64 rm, .isl 2 [], .isl 3 []]) = true := by simp
  exact drn (fun h => ai (f4) <| ai (congrArg some f5) <| ai (congrArg some f6) <| ai (f7) <| ai (congrArg some f8) <| ai (f9) <| ai (f10) <| ai (f11) <| ai (f11) <| h) (.s (.a) (.s (.s (.a) (.k (.s (.a) (.c (.s (.a) (.c (.s (.r [.a, .a, .a, .f (rOf f4)]) (.s (.d [.x 5 (vOf f5), .x 0 (vOf f6)] [.a, .a, .a, .a, .fr .q [.x 0 (vOf f8)] (rOf f9), .f (rOf f10), .a, .a, .a] [(true, .a), (true, .a)] []) (.a))))))))) .a)) [] .a (by kernel_rfl)
theorem do_free_ok (n : Nat) (at_ cut : Int) (b ks : List Int) (rm : Int) (m : ML) (p : PL) (h0 : 0 ≤ at_) (h1 : at_ ≤ 1073741824) (hp : p.length ≤ 1000000) :
  lrun prog C0 (lcall prog C0 (n + 80)) (n + 80) 10 [.ptr 0 0, rNil rm, opA 1 at_ b ks cut] ⟨1, [(0, dO rm m p)]⟩ = some (.tup [rE rm [wrF at_], .bool true], ⟨1, [(0, dO rm m (p ++ [(at_, none)]))]⟩) := by
 have f1 : decide (0 ≤ at_) = true := by simp; omega
 have f2 : LV.bool (if decide (0 ≤ at_) = true then decide (at_ ≤ 1073741824) else false) = LV.bool true := by simp; omega
 have f3 : lrun prog C0 (lcall prog C0 (n + 78)) (n + 78) 46 [.int i64 at_] (St.mk 0 []) = some (LV.bool true, St.mk 0 []) := drn (fun h => ai (congrArg some f1) <| ai (congrArg some f1) <| ai (f2) <| h) (.s (.a) (.s (.r [.a, .a, .a, .g true (.a), .g true (.a), .v (vOf f2) (.a)]) (.a))) [] .a (by kernel_rfl)
 have f4 : lrun prog C0 (lcall prog C0 (n + 79)) (n + 79) 28 [.agg [.int i64 rm, .nils, .nils], .int i64 at_] (St.mk 0 []) = some (LV.tup [.agg [.int i64 rm, .isl 2 [], .isl 3 (List.take 1 (List.drop 0 ([] ++ List.take 1 (List.drop 0 (List.set [.agg [.int i64 0, .bool false, .nils]] 0 (LV.agg [.int i64 at_, .bool true, .nils]))))))], .int i64 0], St.mk 0 []) := drn (fun h => ai (f3) <| h) (.s (.a) (.s (.s (.r [.a, .f (rOf f3)]) (.a)) (.a))) [] .a (by kernel_rfl)
 have f5 : LV.tup [.agg [.int i64 rm, .isl 2 [], .isl 3 (List.take 1 (List.drop 0 ([] ++ List.take 1 (List.drop 0 (List.set [.agg [.int i64 0, .bool false, .nils]] 0 (LV.agg [.int i64 at_, .bool true, .nils]))))))], .int i64 0] = LV.tup [.agg [.int i64 rm, .isl 2 [], .isl 3 [.agg [.int i64 at_, .bool true, .nils]]], .int i64 0] := by simp
 have f6 : LV.agg [.int i64 rm, .isl 2 [], .isl 3 (List.take 1 (List.drop 0 ([] ++ List.take 1 (List.drop 0 (List.set [.agg [.int i64 0, .bool false, .nils]] 0 (LV.agg [.int i64 at_, .bool true, .nils]))))))] = LV.agg [.int i64 rm, .isl 2 [], .isl 3 [.agg [.int i64 at_, .bool true, .nils]]] := by simp
 have f7 : LObj.map i64 (List.zip (mapK m) (mapV m)) = LObj.map i64 (mapE m) := by simp
 have f8 : LObj.box 35 [.int i64 rm, .isl 2 [], .isl 3 (List.take 1 (List.drop 0 ([] ++ List.take 1 (List.drop 0 (List.set [.agg [.int i64 0, .bool false, .nils]] 0 (LV.agg [.int i64 at_, .bool true, .nils]))))))] = LObj.box 35 [.int i64 rm, .isl 2 [], .isl 3 [.agg [.int i64 at_, .bool true, .nils]]] := by simp
 have f9 : LObj.box 64 [.int i64 rm, .map 5, .sl 2 6 0 (List.length (pnds p)) none] = LObj.box 64 [.int i64 rm, .map 5, .sl 2 6 0 (List.length p) none] := by simp
 have f10 : List.length (pnds p) = List.length p := by simp
 have f11 : LObj.box 64 [.int i64 rm, .omap i64 (List.map (·.1) (mapE m)) (List.map (·.2) (mapE m)), .own 90 2 (pnds p)] = LObj.box 64 [.int i64 rm, .omap i64 (mapK m) (mapV m), .own 90 2 (pnds p)] := by simp
 have f12 := free_ok (n + 59) at_ rm m p h0 h1 hp
 have f13 := of_nil (n + 59)
 have f14 : LV.eqb (LV.agg [.int i64 rm, .isl 2 [], .isl 3 [.agg [.int i64 at_, .bool true, .nils]]]) (LV.agg [.int i64 rm, .isl 2 [], .isl 3 [.agg [.int i64 at_, .bool true, .nils]]]) = true := by simp
 exact drn (fun h => ai (f4) <| ai (f5) <| ai (f5) <| ai (f6) <| ai (congrArg some f7) <| ai (congrArg some f8) <| ai (congrArg some f9) <| ai (f10) <| ai (congrArg some f11) <| ai (f12) <| ai (f13) <| ai (f14) <| ai (f14) <| h) (.s (.a) (.s (.s (.a) (.k (.s (.a) (.c (.s (.a) (.c (.s (.r [.a, .a, .a, .f (rOf f4)]) (.s (.d [.y 41 (vOf f5), .y 45 (vOf f5), .y 46 (vOf f6), .x 5 (vOf f7), .x 4 (vOf f8), .x 0 (vOf f9)] [.a, .a, .a, .a, .fr .q [.x 0 (vOf f11)] (rOf f12), .f (rOf f13), .a, .a, .a] [(true, .a), (true, .a)] []) (.a))))))))) .a)) [] .a (by kernel_rfl)
theorem do_read_bad (n : Nat) (at_ cut : Int) (b ks : List Int) (rm : Int) (m : ML) (p : PL) (h : at_ < 0 ∨ 1073741824 < at_) (hp : p.length ≤ 1000000) (ho : okP p) :
  lrun prog C0 (lcall prog C0 (n + 80)) (n + 80) 10 [.ptr 0 0, rNil rm, opA 2 at_ b ks cut] ⟨1, [(0, dO rm m p)]⟩ = some (.tup [rE rm [], .bool true], ⟨1, [(0, dO rm m p)]⟩) := by
 rcases h with h | h
 ·have f1 := dread_bad (n + 79) at_ rm m p (by omega) hp ho
  have f2 : decide (0 ≤ at_) = false := by simp; omega
  have f3 : lpick (decide (0 ≤ at_)) LV.any (LV.bool false) = some (LV.bool false) := by simp; omega
  have f4 : lrun prog C0 (lcall prog C0 (n + 78)) (n + 78) 46 [.int i64 at_] (St.mk 0 []) = some (LV.bool false, St.mk 0 []) := drn (fun h => ai (congrArg some f2) <| ai (congrArg some f2) <| ai (x_map (st := (St.mk 0 [])) f3) <| h) (.s (.a) (.s (.r [.a, .a, .a, .g false (.a), .g false (.a), .t (rOf (x_map (st := (St.mk 0 [])) f3))]) (.a))) [] .a (by kernel_rfl)
  have f5 : lrun prog C0 (lcall prog C0 (n + 79)) (n + 79) 29 [.agg [.int i64 rm, .nils, .nils], .int i64 at_] (St.mk 0 []) = some (LV.tup [.isl 1 [], .int i64 2], St.mk 0 []) := drn (fun h => ai (f4) <| h) (.s (.a) (.s (.s (.r [.a, .f (rOf f4)]) (.a)) .a)) [] .a (by kernel_rfl)
  have f6 : LObj.map i64 (List.zip (mapK m) (mapV m)) = LObj.map i64 (mapE m) := by simp
  have f7 : LObj.box 64 [.int i64 rm, .map 4, .sl 2 5 0 (List.length (pnds p)) none] = LObj.box 64 [.int i64 rm, .map 4, .sl 2 5 0 (List.length p) none] := by simp
  have f8 := of_code (n + 59) [98, 108, 111, 99, 107] at_ 2
  have f9 : lrun prog C0 (lcall prog C0 (n + 79)) (n + 79) 21 [.isl 1 [], .isl 1 []] (St.mk 0 []) = some (LV.bool true, St.mk 0 []) := by kernel_rfl
  have f10 : List.length (pnds p) = List.length p := by simp
  have f11 : (LV.tup [.agg [.int i64 rm, .isl 2 [], .isl 3 []], .bool true], St.mk 1 [(0, LObj.box 64 [.int i64 rm, .omap i64 (List.map (·.1) (mapE m)) (List.map (·.2) (mapE m)), .own 90 2 (pnds p)])]) = (LV.tup [rE rm [], .bool true], St.mk 1 [(0, dO rm m p)]) := by simp
  exact drn (fun h => ai (f1) <| ai (f5) <| ai (congrArg some f6) <| ai (congrArg some f7) <| ai (f8) <| ai (f9) <| ai (f10) <| f11) (.s (.a) (.s (.s (.a) (.k (.s (.a) (.c (.s (.a) (.c (.s (.a) (.c (.s (.r [.a, .a, .a, .f (rOf f1)]) (.s (.r [.a, .a, .a, .f (rOf f5)]) (.s (.d [.x 4 (vOf f6), .x 0 (vOf f7)] [.a, .a, .f (rOf f8), .a, .a, .a, .a, .a, .f (rOf f9), .a, .a] [] []) (.a)))))))))))) .a)) [] .q (by kernel_rfl)
 ·have f1 := dread_bad (n + 79) at_ rm m p (by omega) hp ho
  have f2 : decide (0 ≤ at_) = true := by simp; omega
  have f3 : LV.bool (if decide (0 ≤ at_) = true then decide (at_ ≤ 1073741824) else false) = LV.bool false := by simp; omega
  have f4 : lrun prog C0 (lcall prog C0 (n + 78)) (n + 78) 46 [.int i64 at_] (St.mk 0 []) = some (LV.bool false, St.mk 0 []) := drn (fun h => ai (congrArg some f2) <| ai (congrArg some f2) <| ai (f3) <| h) (.s (.a) (.s (.r [.a, .a, .a, .g true (.a), .g true (.a), .v (vOf f3) (.a)]) (.a))) [] .a (by kernel_rfl)
  have f5 : lrun prog C0 (lcall prog C0 (n + 79)) (n + 79) 29 [.agg [.int i64 rm, .nils, .nils], .int i64 at_] (St.mk 0 []) = some (LV.tup [.isl 1 [], .int i64 2], St.mk 0 []) := drn (fun h => ai (f4) <| h) (.s (.a) (.s (.s (.r [.a, .f (rOf f4)]) (.a)) .a)) [] .a (by kernel_rfl)
  have f6 : LObj.map i64 (List.zip (mapK m) (mapV m)) = LObj.map i64 (mapE m) := by simp
  have f7 : LObj.box 64 [.int i64 rm, .map 4, .sl 2 5 0 (List.length (pnds p)) none] = LObj.box 64 [.int i64 rm, .map 4, .sl 2 5 0 (List.length p) none] := by simp
  have f8 := of_code (n + 59) [98, 108, 111, 99, 107] at_ 2
  have f9 : lrun prog C0 (lcall prog C0 (n + 79)) (n + 79) 21 [.isl 1 [], .isl 1 []] (St.mk 0 []) = some (LV.bool true, St.mk 0 []) := by kernel_rfl
  have f10 : List.length (pnds p) = List.length p := by simp
  have f11 : (LV.tup [.agg [.int i64 rm, .isl 2 [], .isl 3 []], .bool true], St.mk 1 [(0, LObj.box 64 [.int i64 rm, .omap i64 (List.map (·.1) (mapE m)) (List.map (·.2) (mapE m)), .own 90 2 (pnds p)])]) = (LV.tup [rE rm [], .bool true], St.mk 1 [(0, dO rm m p)]) := by simp
  exact drn (fun h => ai (f1) <| ai (f5) <| ai (congrArg some f6) <| ai (congrArg some f7) <| ai (f8) <| ai (f9) <| ai (f10) <| f11) (.s (.a) (.s (.s (.a) (.k (.s (.a) (.c (.s (.a) (.c (.s (.a) (.c (.s (.r [.a, .a, .a, .f (rOf f1)]) (.s (.r [.a, .a, .a, .f (rOf f5)]) (.s (.d [.x 4 (vOf f6), .x 0 (vOf f7)] [.a, .a, .f (rOf f8), .a, .a, .a, .a, .a, .f (rOf f9), .a, .a] [] []) (.a)))))))))))) .a)) [] .q (by kernel_rfl)
theorem do_read_ok (n : Nat) (at_ cut : Int) (b ks : List Int) (rm : Int) (m : ML) (p : PL) (h0 : 0 ≤ at_) (h1 : at_ ≤ 1073741824) (hp : p.length ≤ 1000000) (ho : okP p) (hn : 50 < n) (e : Bool)
  (S : ∀ k, 64 < k + 20 → lrun prog C0 (lcall prog C0 (k + 20)) (k + 20) 21 [.isl 1 (bys (rd m p at_)), .isl 1 (bys (List.replicate 64 0))] ⟨0, []⟩ = some (.bool e, ⟨0, []⟩)) :
  lrun prog C0 (lcall prog C0 (n + 80)) (n + 80) 10 [.ptr 0 0, rNil rm, opA 2 at_ b ks cut] ⟨1, [(0, dO rm m p)]⟩ = some (.tup [rE rm [], .bool e], ⟨1, [(0, dO rm m p)]⟩) := by
 have f1 := dread_ok (n + 79) rm m p at_ h0 h1 hp ho
 have f2 : decide (0 ≤ at_) = true := by simp; omega
 have f3 : LV.bool (if decide (0 ≤ at_) = true then decide (at_ ≤ 1073741824) else false) = LV.bool true := by simp; omega
 have f4 : lrun prog C0 (lcall prog C0 (n + 78)) (n + 78) 46 [.int i64 at_] (St.mk 0 []) = some (LV.bool true, St.mk 0 []) := drn (fun h => ai (congrArg some f2) <| ai (congrArg some f2) <| ai (f3) <| h) (.s (.a) (.s (.r [.a, .a, .a, .g true (.a), .g true (.a), .v (vOf f3) (.a)]) (.a))) [] .a (by kernel_rfl)
 have f5 := find_nil0 (n + 68) at_
 have f6 : lrun prog C0 (lcall prog C0 (n + 79)) (n + 79) 29 [.agg [.int i64 rm, .nils, .nils], .int i64 at_] (St.mk 0 []) = some (LV.tup [.isl 1 (List.take 64 (List.drop 0 (List.replicate 64 (LV.int IntKind.u8 0)))), .int i64 0], St.mk 0 []) := drn (fun h => ai (f4) <| ai (f5) <| h) (.s (.a) (.s (.s (.r [.a, .f (rOf f4)]) (.a)) (.s (.a) (.s (.r [.a, .a, .a, .f (rOf f5)]) (.a))))) [] .a (by kernel_rfl)
 have f7 : LV.isl 1 (List.take 64 (List.drop 0 (List.replicate 64 (LV.int IntKind.u8 0)))) = LV.isl 1 (bys (List.replicate 64 0)) := by simp
 have f8 : LV.tup [.isl 1 (List.take 64 (List.drop 0 (List.replicate 64 (LV.int IntKind.u8 0)))), .int i64 0] = LV.tup [.isl 1 (bys (List.replicate 64 0)), .int i64 0] := by simp
 have f9 : LObj.map i64 (List.zip (mapK m) (mapV m)) = LObj.map i64 (mapE m) := by simp
 have f10 : LObj.box 64 [.int i64 rm, .map 4, .sl 2 5 0 (List.length (pnds p)) none] = LObj.box 64 [.int i64 rm, .map 4, .sl 2 5 0 (List.length p) none] := by simp
 have f11 := of_nil (n + 59)
 have f12 := S (n + 59) (by omega)
 have f13 : lpick true (LV.bool e) (LV.bool false) = some (LV.bool e) := by simp
 have f14 : List.length (pnds p) = List.length p := by simp
 have f15 : (LV.tup [.agg [.int i64 rm, .isl 2 [], .isl 3 []], .bool e], St.mk 1 [(0, LObj.box 64 [.int i64 rm, .omap i64 (List.map (·.1) (mapE m)) (List.map (·.2) (mapE m)), .own 90 2 (pnds p)])]) = (LV.tup [rE rm [], .bool e], St.mk 1 [(0, dO rm m p)]) := by simp
 exact drn (fun h => ai (f1) <| ai (f6) <| ai (f7) <| ai (f8) <| ai (f8) <| ai (f7) <| ai (congrArg some f9) <| ai (congrArg some f10) <| ai (f11) <| ai (f12) <| ai (x_mapS (st := (St.mk 6 [(5, LObj.row 90 2 (pnds p)), (4, LObj.map i64 (mapE m)), (0, LObj.box 64 [.int i64 rm, .map 4, .sl 2 5 0 (List.length p) none]), (3, LObj.box 35 [.int i64 0, .nils, .nils]), (2, LObj.box 41 [.int i64 2, .int i64 at_, .isl 1 (bys b), .isl 1 (ints ks), .int i64 cut]), (1, LObj.box 35 [.int i64 rm, .nils, .nils])])) f13 rfl) <| ai (f14) <| f15) (.s (.a) (.s (.s (.a) (.k (.s (.a) (.c (.s (.a) (.c (.s (.a) (.c (.s (.r [.a, .a, .a, .f (rOf f1)]) (.s (.r [.a, .a, .a, .f (rOf f6)]) (.s (.d [.y 14 (vOf f7), .y 65 (vOf f8), .y 69 (vOf f8), .y 70 (vOf f7), .x 4 (vOf f9), .x 0 (vOf f10)] [.a, .a, .f (rOf f11), .a, .a, .a, .a, .a, .f (rOf f12), .t (rOf (x_mapS (st := (St.mk 6 [(5, LObj.row 90 2 (pnds p)), (4, LObj.map i64 (mapE m)), (0, LObj.box 64 [.int i64 rm, .map 4, .sl 2 5 0 (List.length p) none]), (3, LObj.box 35 [.int i64 0, .nils, .nils]), (2, LObj.box 41 [.int i64 2, .int i64 at_, .isl 1 (bys b), .isl 1 (ints ks), .int i64 cut]), (1, LObj.box 35 [.int i64 rm, .nils, .nils])])) f13 rfl)), .a] [] []) (.a)))))))))))) .a)) [] .q (by kernel_rfl)
theorem do_sync (n : Nat) (at_ cut : Int) (b ks : List Int) (rm : Int) (m m' : ML) (p : PL) (hn : 50 < n)
  (Y : ∀ k, 110 ≤ k + 70 → lrun prog C0 (lcall prog C0 (k + 70)) (k + 70) 17 [.ptr 0 0] ⟨1, [(0, dO rm m p)]⟩ = some (.tup [], ⟨1, [(0, dO rm m' [])]⟩)) :
  lrun prog C0 (lcall prog C0 (n + 80)) (n + 80) 10 [.ptr 0 0, rNil rm, opA 3 at_ b ks cut] ⟨1, [(0, dO rm m p)]⟩ = some (.tup [rE rm [], .bool true], ⟨1, [(0, dO rm m' [])]⟩) := by
 have f1 := Y (n + 9) (by omega)
 exact drn (fun h => ai (f1) <| h) (.s (.a) (.s (.s (.a) (.k (.s (.a) (.c (.s (.a) (.c (.s (.a) (.c (.s (.a) (.c (.s (.r [.a, .f (rOf f1)]) (.a)))))))))))) .a)) [] .a (by kernel_rfl)
theorem do_crash (n : Nat) (at_ cut : Int) (b ks : List Int) (rm : Int) (m m' : ML) (p : PL)
  (Y : ∀ k, lrun prog C0 (lcall prog C0 (k + 70)) (k + 70) 20 [.ptr 0 0, .isl 1 (ints ks), .int .i64 cut] ⟨1, [(0, dO rm m p)]⟩ = some (.tup [], ⟨1, [(0, dO rm m' [])]⟩)) :
  lrun prog C0 (lcall prog C0 (n + 80)) (n + 80) 10 [.ptr 0 0, rNil rm, opA 4 at_ b ks cut] ⟨1, [(0, dO rm m p)]⟩ = some (.tup [rE rm [], .bool true], ⟨1, [(0, dO rm m' [])]⟩) := by
 have f1 := Y (n + 9)
 have f2 := crash_nil0 (n + 69) rm ks cut
 exact drn (fun h => ai (f1) <| ai (f2) <| h) (.s (.a) (.s (.s (.a) (.k (.s (.a) (.c (.s (.a) (.c (.s (.a) (.c (.s (.a) (.c (.s (.a) (.c (.s (.r [.a, .a, .a, .a, .a, .f (rOf f1)]) (.s (.r [.a, .a, .a, .a, .a, .f (rOf f2)]) (.a))))))))))))))) .a)) [] .a (by kernel_rfl)
theorem do_wipe (n : Nat) (at_ cut : Int) (b ks : List Int) (rm : Int) (m : ML) (p : PL) :
  lrun prog C0 (lcall prog C0 (n + 80)) (n + 80) 10 [.ptr 0 0, rNil rm, opA 5 at_ b ks cut] ⟨1, [(0, dO rm m p)]⟩ = some (.tup [rE rm [], .bool true], ⟨1, [(0, dO rm [] [])]⟩) := by
 have f1 := wipe_ok (n + 59) rm m p
 exact drn (fun h => ai (f1) <| h) (.s (.a) (.s (.s (.a) (.k (.s (.a) (.c (.s (.a) (.c (.s (.a) (.c (.s (.a) (.c (.s (.a) (.c (.s (.a) (.c (.s (.r [.a, .f (rOf f1)]) (.a)))))))))))))))) .a)) [] .a (by kernel_rfl)
theorem do_id (n : Nat) (k at_ cut : Int) (b ks : List Int) (rm : Int) (m : ML) (p : PL) (k0 : ¬ k = 0) (k1 : ¬ k = 1) (k2 : ¬ k = 2) (k3 : ¬ k = 3) (k4 : ¬ k = 4) (k5 : ¬ k = 5) :
  lrun prog C0 (lcall prog C0 (n + 80)) (n + 80) 10 [.ptr 0 0, rNil rm, opA k at_ b ks cut] ⟨1, [(0, dO rm m p)]⟩ = some (.tup [rE rm [], .bool true], ⟨1, [(0, dO rm m p)]⟩) := by
 have f1 : decide (k = 0) = false := by simp; omega
 have f2 : decide (k = 1) = false := by simp; omega
 have f3 : decide (k = 2) = false := by simp; omega
 have f4 : decide (k = 3) = false := by simp; omega
 have f5 : decide (k = 4) = false := by simp; omega
 have f6 : decide (k = 5) = false := by simp; omega
 exact drn (fun h => ai (congrArg LV.bool f1) <| ai (congrArg LV.bool f2) <| ai (congrArg LV.bool f3) <| ai (congrArg LV.bool f4) <| ai (congrArg LV.bool f5) <| ai (congrArg LV.bool f6) <| h) (.s (.a) (.s (.s (.a) (.k (.s (.a) (.b false (.s (.a) (.b false (.s (.a) (.b false (.s (.a) (.b false (.s (.a) (.b false (.s (.a) (.b false (.a))))))))))))))) (.a))) [] .a (by kernel_rfl)
structure Act5 where
 kind : Int
 at_ : Int
 b : List Int
 keep : List Int
 cut : Int
def op5 (x : Act5) : LV := .agg [.int .i64 x.kind, .int .i64 x.at_, .isl 1 (bys x.b), .isl 1 (ints x.keep), .int .i64 x.cut]
def ops5 (l : List Act5) : List LV := l.map op5
@[simp] theorem ops5_length (l : List Act5) : (ops5 l).length = l.length := by simp [ops5]
abbrev liE (l : List Act5) (i : Int) : LEnv := [.isl 5 (ops5 l), .any, .any, .int i64 i, .any, .any, .any, .any, .any, .any, .any, .any, .any, .any, .any, .any, .any, .any, .any, .any, .any, .any, .any, .any, .any, .any, .any, .any, .any]
abbrev liX (l : List Act5) (i : Int) : LEnv := [.isl 5 (ops5 l), .any, .any, .int i64 i, .any, .any, .any, .int i64 i, .isl 5 (ops5 l), .int i64 l.length, .bool (decide (i < (l.length : Int))),
  .any, .any, .any, .any, .any, .any, .any, .any, .any, .any, .any, .any, .any, .any,
  .any, .any, .any, .any]
abbrev liB1 (l : List Act5) (i k a : Int) (b ks : List Int) (c : Int) : LEnv := [.isl 5 (ops5 l), .any, .bool false, .int i64 i, .any, .any, .any, .int i64 i, .isl 5 (ops5 l), .int i64 ↑(ops5 l).length, .bool (decide (i < ↑(ops5 l).length)), .any, .any, .isl 5 (ops5 l), .int i64 i, (LV.agg [.int i64 k, .int i64 a, .isl 1 (bys b), .isl 1 (ints ks), .int i64 c]).irp, (LV.isl 1 (bys b)).irp, .isl 1 (bys b), .int i64 ↑(bys b).length, .bool (decide (100 < ↑(bys b).length)), .bool (decide (100 < ↑(bys b).length)), .any, .any, .any, .any, .any, .any, .any, .bool true]
abbrev liB2 (l : List Act5) (i k a : Int) (b ks : List Int) (c : Int) : LEnv := [.isl 5 (ops5 l), .any, .bool false, .int i64 i, .any, .any, .any, .int i64 i, .isl 5 (ops5 l), .int i64 ↑(ops5 l).length, .bool (decide (i < ↑(ops5 l).length)), .any, .any, .isl 5 (ops5 l), .int i64 i, (LV.agg [.int i64 k, .int i64 a, .isl 1 (bys b), .isl 1 (ints ks), .int i64 c]).irp, (LV.isl 1 (bys b)).irp, .isl 1 (bys b), .int i64 ↑(bys b).length, .bool (decide (100 < ↑(bys b).length)), .bool (decide (100 < ↑(bys b).length)), .isl 5 (ops5 l), .int i64 i, (LV.agg [.int i64 k, .int i64 a, .isl 1 (bys b), .isl 1 (ints ks), .int i64 c]).irp, (LV.isl 1 (ints ks)).irp, .isl 1 (ints ks), .int i64 ↑(ints ks).length, .bool (decide (100 < ↑(ints ks).length)), .bool true]
theorem light_end (n fu : Nat) (l : List Act5) (hl : l.length ≤ 60) (i : Int) (hi : (l.length : Int) ≤ i) : loopAt prog C0 (n + 20) 6 0 0 (fu + 1) (liE l i) ⟨0, []⟩ = some (.exit 0, liX l i, ⟨0, []⟩) := by
 have f1 : decide (i < ((ops5 l).length : Int)) = false := by simp; omega
 have f2 : (LX.exit 0, [.isl 5 (ops5 l), .any, .any, .int i64 i, .any, .any, .any, .int i64 i, .isl 5 (ops5 l), .int i64 ((ops5 l).length : Int), .bool (decide (i < ((ops5 l).length : Int))), .any, .any, .any, .any, .any, .any, .any, .any, .any, .any, .any, .any, .any, .any, .any, .any, .any, .any], St.mk 0 []) = (LX.exit 0, liX l i, St.mk 0 []) := by simp
 exact dlp (fun h => ai (congrArg LV.bool f1) <| f2) (.i (.s (.s (.a) (.b false (.a))) .a) (.a)) (by kernel_rfl)
theorem light_step (n fu : Nat) (l : List Act5) (hl : l.length ≤ 60) (i : Int) (h0 : 0 ≤ i) (hi : i < (l.length : Int)) (k a : Int) (b ks : List Int) (c : Int) (hx : (ops5 l)[i.toNat]? = some (.agg [.int .i64 k, .int .i64 a, .isl 1 (bys b), .isl 1 (ints ks), .int .i64 c]))
  (hb : b.length ≤ 100) (hks : ks.length ≤ 100) (r : LX × LEnv × St) (hr : loopAt prog C0 (n + 20) 6 0 0 fu (liE l (i + 1)) ⟨0, []⟩ = some r) :
  loopAt prog C0 (n + 20) 6 0 0 (fu + 1) (liE l i) ⟨0, []⟩ = some r := by
 have f1 : decide (i < ((ops5 l).length : Int)) = true := by simp; omega
 have f2 : (ops5 l)[i.toNat]? = some (LV.agg [.int i64 k, .int i64 a, .isl 1 (bys b), .isl 1 (ints ks), .int i64 c]) := hx
 have f3 : 0 ≤ i ∧ i < ((ops5 l).length : Int) := by simp; omega
 have f4 : decide (100 < ((bys b).length : Int)) = false := by simp; omega
 have f5 : LV.bool (if decide (100 < ((bys b).length : Int)) = true then true else decide (100 < ((ints ks).length : Int))) = LV.bool false := by simp; omega
 have f6 : LV.int i64 (IntKind.wrap i64 (i + 1)) = LV.int i64 (i + 1) := by simp (disch := omega)
 have f7 := hr
 exact dlp (fun h => ai (congrArg LV.bool f1) <| ai (f3) <| ai (f2) <| ai (congrArg some f4) <| ai (congrArg some f4) <| ai (congrArg some f4) <| ai (f3) <| ai (f2) <| ai (congrArg some f4) <| ai (congrArg some f4) <| ai (congrArg some f4) <| ai (congrArg some f4) <| ai (f5) <| ai (f6) <| ai (Eq.refl (tidyOf f7)) <| ai (f7) <| h) (.i (.s (.s (.a) (.b true (.a))) (.s (.k (.s (.r [.a, .a, .e (rOf f2), .a, .a, .a, .a, .a, .g false (.a), .g false (.a), .g false (.e (rOf f2)), .g false (.a), .g false (.a), .g false (.a), .g false (.a), .v (vOf f5) (.a)]) (.a))) (.r [.a, .v (vOf f6) (.a)]))) (.h [] (eOf f7) (stOf f7) (rOf f7))) (by kernel_rfl)
theorem light_bad1 (n fu : Nat) (l : List Act5) (hl : l.length ≤ 60) (i : Int) (h0 : 0 ≤ i) (hi : i < (l.length : Int)) (k a : Int) (b ks : List Int) (c : Int) (hx : (ops5 l)[i.toNat]? = some (.agg [.int .i64 k, .int .i64 a, .isl 1 (bys b), .isl 1 (ints ks), .int .i64 c]))
  (hb : 100 < b.length) :
  loopAt prog C0 (n + 20) 6 0 0 (fu + 1) (liE l i) ⟨0, []⟩ = some (.ret, liB1 l i k a b ks c, ⟨0, []⟩) := by
 have f1 : decide (i < ((ops5 l).length : Int)) = true := by simp; omega
 have f2 : (ops5 l)[i.toNat]? = some (LV.agg [.int i64 k, .int i64 a, .isl 1 (bys b), .isl 1 (ints ks), .int i64 c]) := hx
 have f3 : 0 ≤ i ∧ i < ((ops5 l).length : Int) := by simp; omega
 have f4 : decide (100 < ((bys b).length : Int)) = true := by simp; omega
 have f5 : lpick (decide (100 < ((bys b).length : Int))) (LV.bool true) LV.any = some (LV.bool true) := by simp; omega
 have f6 : (LX.ret, [.isl 5 (ops5 l), .any, .bool false, .int i64 i, .any, .any, .any, .int i64 i, .isl 5 (ops5 l), .int i64 ((ops5 l).length : Int), .bool (decide (i < ((ops5 l).length : Int))), .any, .any, .isl 5 (ops5 l), .int i64 i, LV.irp (LV.agg [.int i64 k, .int i64 a, .isl 1 (bys b), .isl 1 (ints ks), .int i64 c]), LV.irp (LV.isl 1 (bys b)), .isl 1 (bys b), .int i64 ((bys b).length : Int), .bool (decide (100 < ((bys b).length : Int))), .bool (decide (100 < ((bys b).length : Int))), .any, .any, .any, .any, .any, .any, .any, .bool true], St.mk 0 []) = (LX.ret, liB1 l i k a b ks c, St.mk 0 []) := by simp; omega
 exact dlp (fun h => ai (congrArg LV.bool f1) <| ai (f3) <| ai (f2) <| ai (congrArg some f4) <| ai (congrArg some f4) <| ai (congrArg some f4) <| ai (congrArg some f4) <| ai (congrArg some f4) <| ai (congrArg some f4) <| ai (congrArg some f4) <| ai (x_map (st := (St.mk 0 [])) f5) <| f6) (.i (.s (.s (.a) (.b true (.a))) (.s (.k (.s (.r [.a, .a, .e (rOf f2), .a, .a, .a, .a, .a, .g true (.a), .g true (.a), .g true (.a), .g true (.a), .g true (.a), .g true (.a), .g true (.a), .t (rOf (x_map (st := (St.mk 0 [])) f5))]) (.a))) .a)) (.a)) (by kernel_rfl)
theorem light_bad2 (n fu : Nat) (l : List Act5) (hl : l.length ≤ 60) (i : Int) (h0 : 0 ≤ i) (hi : i < (l.length : Int)) (k a : Int) (b ks : List Int) (c : Int) (hx : (ops5 l)[i.toNat]? = some (.agg [.int .i64 k, .int .i64 a, .isl 1 (bys b), .isl 1 (ints ks), .int .i64 c]))
  (hb : b.length ≤ 100) (hks : 100 < ks.length) :
  loopAt prog C0 (n + 20) 6 0 0 (fu + 1) (liE l i) ⟨0, []⟩ = some (.ret, liB2 l i k a b ks c, ⟨0, []⟩) := by
 have f1 : decide (i < ((ops5 l).length : Int)) = true := by simp; omega
 have f2 : (ops5 l)[i.toNat]? = some (LV.agg [.int i64 k, .int i64 a, .isl 1 (bys b), .isl 1 (ints ks), .int i64 c]) := hx
 have f3 : 0 ≤ i ∧ i < ((ops5 l).length : Int) := by simp; omega
 have f4 : decide (100 < ((bys b).length : Int)) = false := by simp; omega
 have f5 : LV.bool (if decide (100 < ((bys b).length : Int)) = true then true else decide (100 < ((ints ks).length : Int))) = LV.bool true := by simp; omega
 have f6 : (LX.ret, [.isl 5 (ops5 l), .any, .bool false, .int i64 i, .any, .any, .any, .int i64 i, .isl 5 (ops5 l), .int i64 ((ops5 l).length : Int), .bool (decide (i < ((ops5 l).length : Int))), .any, .any, .isl 5 (ops5 l), .int i64 i, LV.irp (LV.agg [.int i64 k, .int i64 a, .isl 1 (bys b), .isl 1 (ints ks), .int i64 c]), LV.irp (LV.isl 1 (bys b)), .isl 1 (bys b), .int i64 ((bys b).length : Int), .bool (decide (100 < ((bys b).length : Int))), .bool (decide (100 < ((bys b).length : Int))), .isl 5 (ops5 l), .int i64 i, LV.irp (LV.agg [.int i64 k, .int i64 a, .isl 1 (bys b), .isl 1 (ints ks), .int i64 c]), LV.irp (LV.isl 1 (ints ks)), .isl 1 (ints ks), .int i64 ((ints ks).length : Int), .bool (decide (100 < ((ints ks).length : Int))), .bool true], St.mk 0 []) = (LX.ret, liB2 l i k a b ks c, St.mk 0 []) := by simp; omega
 exact dlp (fun h => ai (congrArg LV.bool f1) <| ai (f3) <| ai (f2) <| ai (congrArg some f4) <| ai (congrArg some f4) <| ai (congrArg some f4) <| ai (f3) <| ai (f2) <| ai (congrArg some f4) <| ai (congrArg some f4) <| ai (congrArg some f4) <| ai (congrArg some f4) <| ai (f5) <| f6) (.i (.s (.s (.a) (.b true (.a))) (.s (.k (.s (.r [.a, .a, .e (rOf f2), .a, .a, .a, .a, .a, .g false (.a), .g false (.a), .g false (.e (rOf f2)), .g false (.a), .g false (.a), .g false (.a), .g false (.a), .v (vOf f5) (.a)]) (.a))) .a)) (.a)) (by kernel_rfl)
theorem light_long (n : Nat) (l : List Act5) (hl : 60 < l.length) : lrun prog C0 (lcall prog C0 (n + 20)) (n + 20) 6 [.isl 5 (ops5 l)] ⟨0, []⟩ = some (.bool false, ⟨0, []⟩) := by
 have f1 : decide (60 < ((ops5 l).length : Int)) = true := by simp; omega
 exact drn (fun h => ai (congrArg LV.bool f1) <| h) (.s (.a) (.s (.s (.a) (.b true (.a))) .a)) [] .a (by kernel_rfl)
theorem light_thru (n : Nat) (l : List Act5) (hl : l.length ≤ 60) (i : Int) (L : loopAt prog C0 (n + 20) 6 0 0 (n + 20) (liE l 0) ⟨0, []⟩ = some (.exit 0, liX l i, ⟨0, []⟩)) : lrun prog C0 (lcall prog C0 (n + 20)) (n + 20) 6 [.isl 5 (ops5 l)] ⟨0, []⟩ = some (.bool true, ⟨0, []⟩) := by
 have f1 : decide (60 < ((ops5 l).length : Int)) = false := by simp; omega
 have f2 := L
 exact drn (fun h => ai (congrArg LV.bool f1) <| ai (Eq.refl (tidyOf f2)) <| ai (f2) <| h) (.s (.a) (.s (.s (.a) (.b false (.a))) (.s (.s (.a) (.k (.l (.h [] (eOf f2) (stOf f2) (rOf f2))))) (.a)))) [] .a (by kernel_rfl)
theorem light_stop1 (n : Nat) (l : List Act5) (hl : l.length ≤ 60) (i k a : Int) (b ks : List Int) (c : Int) (L : loopAt prog C0 (n + 20) 6 0 0 (n + 20) (liE l 0) ⟨0, []⟩ = some (.ret, liB1 l i k a b ks c, ⟨0, []⟩)) : lrun prog C0 (lcall prog C0 (n + 20)) (n + 20) 6 [.isl 5 (ops5 l)] ⟨0, []⟩ = some (.bool false, ⟨0, []⟩) := by
 have f1 : decide (60 < ((ops5 l).length : Int)) = false := by simp; omega
 have f2 := L
 exact drn (fun h => ai (congrArg LV.bool f1) <| ai (Eq.refl (tidyOf f2)) <| ai (f2) <| h) (.s (.a) (.s (.s (.a) (.b false (.a))) (.s (.s (.a) (.k (.l (.h [] (eOf f2) (stOf f2) (rOf f2))))) .a))) [] .a (by kernel_rfl)
theorem light_stop2 (n : Nat) (l : List Act5) (hl : l.length ≤ 60) (i k a : Int) (b ks : List Int) (c : Int) (L : loopAt prog C0 (n + 20) 6 0 0 (n + 20) (liE l 0) ⟨0, []⟩ = some (.ret, liB2 l i k a b ks c, ⟨0, []⟩)) : lrun prog C0 (lcall prog C0 (n + 20)) (n + 20) 6 [.isl 5 (ops5 l)] ⟨0, []⟩ = some (.bool false, ⟨0, []⟩) := by
 have f1 : decide (60 < ((ops5 l).length : Int)) = false := by simp; omega
 have f2 := L
 exact drn (fun h => ai (congrArg LV.bool f1) <| ai (Eq.refl (tidyOf f2)) <| ai (f2) <| h) (.s (.a) (.s (.s (.a) (.b false (.a))) (.s (.s (.a) (.k (.l (.h [] (eOf f2) (stOf f2) (rOf f2))))) .a))) [] .a (by kernel_rfl)
def Light (x : Act5) : Bool := decide (x.b.length ≤ 100) && decide (x.keep.length ≤ 100)
def lightB (l : List Act5) : Bool := decide (l.length ≤ 60) && l.all Light
theorem ops5_at {l : List Act5} {i : Nat} {x : Act5} (h : l[i]? = some x) : (ops5 l)[i]? = some (.agg [.int .i64 x.kind, .int .i64 x.at_, .isl 1 (bys x.b), .isl 1 (ints x.keep), .int .i64 x.cut]) := by
 simp [ops5, op5, h]
theorem light_loop (n : Nat) (l : List Act5) (hl : l.length ≤ 60) : ∀ (q : List Act5) (fu : Nat) (i : Int), 0 ≤ i → i ≤ l.length → l.drop i.toNat = q → q.length < fu →
  (q.all Light = true → loopAt prog C0 (n + 20) 6 0 0 fu (liE l i) ⟨0, []⟩ = some (.exit 0, liX l l.length, ⟨0, []⟩)) ∧
  (q.all Light = false → ∃ j k a b ks c, loopAt prog C0 (n + 20) 6 0 0 fu (liE l i) ⟨0, []⟩ = some (.ret, liB1 l j k a b ks c, ⟨0, []⟩) ∨ loopAt prog C0 (n + 20) 6 0 0 fu (liE l i) ⟨0, []⟩ = some (.ret, liB2 l j k a b ks c, ⟨0, []⟩))
 | [], fu, i, h0, hle, hq, hf => by
  obtain ⟨fu, rfl⟩ : ∃ k, fu = k + 1 := ⟨fu - 1, by omega⟩
  have hi := List.drop_eq_nil_iff.1 hq
  have e : i = l.length := by omega
  refine ⟨fun _ => ?_, fun h => (nomatch h)⟩
  rw [light_end n fu l hl i (by omega), e]
 | x :: q, fu, i, h0, hle, hq, hf => by
  obtain ⟨fu, rfl⟩ : ∃ k, fu = k + 1 := ⟨fu - 1, by simp at hf; omega⟩
  have hx : l[i.toNat]? = some x := by
   have := congrArg (fun z => z[0]?) hq
   simpa using this
  have hi : i.toNat < l.length := (List.getElem?_eq_some_iff.1 hx).1
  have hq2 : l.drop (i + 1).toNat = q := by
   have e : (i + 1).toNat = i.toNat + 1 := by omega
   rw [e, ← List.drop_drop, hq]; rfl
  have ih := light_loop n l hl q fu (i + 1) (by omega) (by omega) hq2 (by simp at hf; omega)
  have ho := ops5_at hx
  by_cases hb : x.b.length ≤ 100
  ·by_cases hk : x.keep.length ≤ 100
   ·have st := light_step n fu l hl i h0 (by omega) x.kind x.at_ x.b x.keep x.cut ho hb hk
    have hL : Light x = true := by simp [Light, hb, hk]
    rw [List.all_cons, hL, Bool.true_and]
    refine ⟨fun h => st _ (ih.1 h), fun h => ?_⟩
    obtain ⟨j, k, a, b, ks, c, h1 | h1⟩ := ih.2 h
    ·exact ⟨j, k, a, b, ks, c, .inl (st _ h1)⟩
    ·exact ⟨j, k, a, b, ks, c, .inr (st _ h1)⟩
   ·have hL : Light x = false := by simp [Light, hk]
    rw [List.all_cons, hL, Bool.false_and]
    exact ⟨fun h => (nomatch h), fun _ => ⟨i, x.kind, x.at_, x.b, x.keep, x.cut, .inr (light_bad2 n fu l hl i h0 (by omega) _ _ _ _ _ ho hb (by omega))⟩⟩
  ·have hL : Light x = false := by simp [Light, hb]
   rw [List.all_cons, hL, Bool.false_and]
   exact ⟨fun h => (nomatch h), fun _ => ⟨i, x.kind, x.at_, x.b, x.keep, x.cut, .inl (light_bad1 n fu l hl i h0 (by omega) _ _ _ _ _ ho (by omega))⟩⟩
theorem light_ok (n : Nat) (l : List Act5) (hn : 60 < n + 20) : lrun prog C0 (lcall prog C0 (n + 20)) (n + 20) 6 [.isl 5 (ops5 l)] ⟨0, []⟩ = some (.bool (lightB l), ⟨0, []⟩) := by
 unfold lightB
 by_cases hl : l.length ≤ 60
 ·have L := light_loop n l hl l (n + 20) 0 (by omega) (by omega) rfl (by omega)
  rw [decide_eq_true hl, Bool.true_and]
  cases h : l.all Light with
  | true => exact light_thru n l hl _ (L.1 h)
  | false =>
   obtain ⟨j, k, a, b, ks, c, h1 | h1⟩ := L.2 h
   ·exact light_stop1 n l hl j k a b ks c h1
   ·exact light_stop2 n l hl j k a b ks c h1
 ·rw [decide_eq_false hl, Bool.false_and]
  exact light_long n l (by omega)
def mset : ML → Int → List Int → ML
 | [], _, _ => []
 | (k, v) :: l, n, x => if k = n then (n, x) :: l else (k, v) :: mset l n x
def mins : ML → Int → List Int → ML
 | [], n, x => [(n, x)]
 | (k, v) :: l, n, x => if n < k then (n, x) :: (k, v) :: l else (k, v) :: mins l n x
def mput2 (m : ML) (n : Int) (x : List Int) : ML := if (mget m n).isSome then mset m n x else mins m n x
theorem kset_mapE (a : Int) (b : List Int) : ∀ m : ML, kset (mapE m) a (.isl 1 (bys b)) = mapE (mset m a b)
 | [] => rfl
 | (k, v) :: m => by
  have ih := kset_mapE a b m
  show kset ((k, .isl 1 (bys v)) :: mapE m) a (.isl 1 (bys b)) = _
  simp only [kset, mset]
  split
  ·rfl
  ·rw [ih]; rfl
theorem kins_mapE (a : Int) (b : List Int) : ∀ m : ML, kins (mapE m) a (.isl 1 (bys b)) = mapE (mins m a b)
 | [] => rfl
 | (k, v) :: m => by
  have ih := kins_mapE a b m
  show kins ((k, .isl 1 (bys v)) :: mapE m) a (.isl 1 (bys b)) = _
  simp only [kins, mins]
  split
  ·rfl
  ·rw [ih]; rfl
theorem kput_mapE (a : Int) (b : List Int) (m : ML) : kput (mapE m) a (.isl 1 (bys b)) = mapE (mput2 m a b) := by
 unfold kput mput2
 rw [kget_mapE, Option.isSome_map, kset_mapE, kins_mapE]
 split <;> rfl
theorem kdel_mapE (a : Int) : ∀ m, kdel (mapE m) a = mapE (mdel m a)
 | [] => rfl
 | (k, v) :: m => by
  have ih := kdel_mapE a m
  show kdel ((k, .isl 1 (bys v)) :: mapE m) a = _
  simp only [kdel, mdel]
  split
  ·rfl
  ·rw [ih]; rfl
def applyM : PL → ML → ML
 | [], m => m
 | (a, some b) :: q, m => applyM q (mput2 m a b)
 | (a, none) :: q, m => applyM q (mdel m a)
theorem applyP_mapE : ∀ (p : PL) (m : ML), applyP p (mapE m) = mapE (applyM p m)
 | [], m => rfl
 | (a, some b) :: q, m => by simp only [applyP, applyM, kput_mapE, applyP_mapE q]
 | (a, none) :: q, m => by simp only [applyP, applyM, kdel_mapE, applyP_mapE q]
def lastK (ks : List Int) : Nat → Int
 | 0 => -1
 | k + 1 => if k < ks.length ∧ ¬ atI ks k = 0 then k else lastK ks k
def cur (m : ML) (a : Int) : List Int := match mget m a with
 | some c => blk c
 | none => List.replicate 64 0
def stepM (ks : List Int) (cut last : Int) (k : Nat) (m : ML) (x : Int × Option (List Int)) : ML :=
 if last < k ∨ atI ks k = 0 then m else
 match x.2 with
 | none => mdel m x.1
 | some b => if (k : Int) = last ∧ 0 ≤ cut ∧ cut < 64 then mput2 m x.1 (spliceI (cur m x.1) 0 (b.take cut.toNat)) else mput2 m x.1 b
def crashM (ks : List Int) (cut last : Int) : PL → Nat → ML → ML
 | [], _, m => m
 | x :: q, k, m => crashM ks cut last q (k + 1) (stepM ks cut last k m x)
theorem lastK_lt (ks : List Int) : ∀ k, lastK ks k < k ∧ lastK ks k < ks.length
 | 0 => by simp only [lastK]; omega
 | k + 1 => by
  have ih := lastK_lt ks k
  simp only [lastK]
  split <;> omega
theorem cr_loop (n : Nat) (rm : Int) (m : ML) (p : PL) (ks : List Int) (cut : Int) (N : Nat) (hN : N ≤ 100000) : ∀ (j k fu : Nat), k + j = N → j < fu →
  loopAt prog C0 (n + 60) 20 0 1 fu (crE ks cut (lastK ks k) k N) (crS rm m p) = some (.exit 0, crX ks cut (lastK ks N) N N, crS rm m p)
 | 0, k, fu, hk, hf => by
  obtain ⟨fu, rfl⟩ : ∃ q, fu = q + 1 := ⟨fu - 1, by omega⟩
  obtain rfl : k = N := by omega
  exact cr_end n fu rm m p ks cut _ k hN
 | j + 1, k, fu, hk, hf => by
  obtain ⟨fu, rfl⟩ : ∃ q, fu = q + 1 := ⟨fu - 1, by omega⟩
  have ih := cr_loop n rm m p ks cut N hN j (k + 1) fu (by omega) (by omega)
  by_cases h1 : k < ks.length
  ·by_cases h2 : atI ks k = 0
   ·have e : lastK ks (k + 1) = lastK ks k := by simp [lastK, h2]
    rw [e] at ih
    exact cr_miss n fu rm m p ks cut _ k N hN (by omega) h1 h2 _ ih
   ·have e : lastK ks (k + 1) = k := by simp [lastK, h1, h2]
    rw [e] at ih
    exact cr_hit n fu rm m p ks cut _ k N hN (by omega) h1 h2 _ ih
  ·have e : lastK ks (k + 1) = lastK ks k := by simp [lastK, h1]
   rw [e] at ih
   exact cr_over n fu rm m p ks cut _ k N hN (by omega) (by omega) _ ih
def ok64 (p : PL) : Prop := ∀ x ∈ p, ∀ b, x.2 = some b → b.length = 64
theorem ok64.okP {p : PL} (h : ok64 p) : okP p := fun x hx b hb e => by
 have := h x hx b hb
 rw [e] at this; simp at this
theorem cs_loop (n : Nat) (rm : Int) (m : ML) (p : PL) (hp : p.length ≤ 100000) (h64 : ok64 p) (ks : List Int) (cut last : Int) (hl : last < ks.length) : ∀ (q : PL) (k fu : Nat) (w : ML), p.drop k = q → k ≤ p.length → q.length < fu →
  loopAt prog C0 (n + 60) 20 1 1 fu (crF ks cut last k p.length) (aS rm m p (mapE w)) = some (.exit 2, crG ks cut last p.length p.length, aS rm m p (mapE (crashM ks cut last q k w)))
 | [], k, fu, w, hd, hk, hf => by
  obtain ⟨fu, rfl⟩ : ∃ q, fu = q + 1 := ⟨fu - 1, by simp at hf; omega⟩
  have : p.length ≤ k := by simpa using hd
  obtain rfl : k = p.length := by omega
  exact cs_end n fu rm m p hp (mapE w) ks cut last
 | x :: q, k, fu, w, hd, hk, hf => by
  obtain ⟨fu, rfl⟩ : ∃ q, fu = q + 1 := ⟨fu - 1, by simp at hf; omega⟩
  have hx : p[k]? = some x := by
   have := congrArg List.head? hd
   simpa [List.head?_drop] using this
  have hlt : k < p.length := (List.getElem?_eq_some_iff.1 hx).1
  have hd2 : p.drop (k + 1) = q := by rw [← List.drop_drop, hd]; rfl
  have ih := fun w' => cs_loop n rm m p hp h64 ks cut last hl q (k + 1) fu w' hd2 (by omega) (by simp at hf; omega)
  have hxl : (pnds p)[k]? = some (pnd x) := by simp only [pnds, List.getElem?_map, hx, Option.map_some]
  obtain ⟨a, o⟩ := x
  have hm := List.mem_of_getElem? hx
  by_cases h1 : last < k
  ·skip
   rw [crashM, show stepM ks cut last k w (a, o) = w by unfold stepM; rw [if_pos (.inl h1)]]
   cases o with
   | none => exact cs_pastN n fu rm m p hp (mapE w) ks cut last k hlt a hxl h1 _ (ih w)
   | some b => exact cs_pastS n fu rm m p hp (mapE w) ks cut last k hlt a b hxl h1 _ (ih w)
  have hks : k < ks.length := by omega
  by_cases h3 : atI ks k = 0
  ·rw [crashM, show stepM ks cut last k w (a, o) = w by unfold stepM; rw [if_pos (.inr h3)]]
   cases o with
   | none => exact cs_lostN n fu rm m p hp (mapE w) ks cut last k hlt a hxl (by omega) hks h3 _ (ih w)
   | some b => exact cs_lostS n fu rm m p hp (mapE w) ks cut last k hlt a b hxl (by omega) hks h3 _ (ih w)
  have hn : ¬ (last < k ∨ atI ks k = 0) := by rintro (h | h); exact h1 h; exact h3 h
  rw [crashM]; unfold stepM; rw [if_neg hn]
  cases o with
  | none =>
   have I := ih (mdel w a)
   rw [← kdel_mapE] at I
   by_cases he : (k : Int) = last
   ·subst he
    exact cs_free2 n fu rm m p hp (mapE w) ks cut k hlt a hxl hks h3 _ I
   ·exact cs_free1 n fu rm m p hp (mapE w) ks cut last k hlt a hxl (by omega) hks h3 _ I
  | some b =>
   have hb := h64 _ hm b rfl
   by_cases he : (k : Int) = last
   ·subst he
    by_cases hc : 0 ≤ cut ∧ cut < 64
    ·simp only [true_and, hc, and_self, if_true]
     have I := ih (mput2 w a (spliceI (cur w a) 0 (b.take cut.toNat)))
     rw [← kput_mapE] at I
     have hg := kget_mapE a w
     unfold cur at I ⊢
     cases hq : mget w a with
     | none =>
      rw [hq] at I hg
      exact cs_torn0 n fu rm m p hp (mapE w) ks cut k hlt a b hxl hb hks h3 hc.1 hc.2 hg _ I
     | some c =>
      rw [hq] at I hg
      exact cs_torn n fu rm m p hp (mapE w) ks cut k hlt a b hxl hb hks h3 hc.1 hc.2 c hg _ I
    ·simp only [hc, and_false, if_false]
     have I := ih (mput2 w a b)
     rw [← kput_mapE] at I
     by_cases h0 : cut < 0
     ·exact cs_put2 n fu rm m p hp (mapE w) ks cut k hlt a b hxl hb hks h3 h0 _ I
     ·exact cs_put3 n fu rm m p hp (mapE w) ks cut k hlt a b hxl hb hks h3 (by omega) _ I
   ·simp only [he, false_and, if_false]
    have I := ih (mput2 w a b)
    rw [← kput_mapE] at I
    exact cs_put1 n fu rm m p hp (mapE w) ks cut last k hlt a b hxl hb (by omega) hks h3 _ I
def crashD (m : ML) (p : PL) (ks : List Int) (cut : Int) : ML := crashM ks cut (lastK ks p.length) p 0 m
theorem crash_any (n : Nat) (rm : Int) (m : ML) (p : PL) (hp : p.length ≤ 100000) (hn : p.length < n + 60) (h64 : ok64 p) (ks : List Int) (cut : Int) :
  lrun prog C0 (lcall prog C0 (n + 60)) (n + 60) 20 [.ptr 0 0, .isl 1 (ints ks), .int .i64 cut] ⟨1, [(0, dO rm m p)]⟩ = some (.tup [], ⟨1, [(0, dO rm (crashD m p ks cut) [])]⟩) := by
 rcases Nat.eq_zero_or_pos p.length with h0 | h0
 ·obtain rfl := List.length_eq_zero_iff.1 h0
  exact crash_nil n rm m ks cut
 ·exact crash_thru n rm m (crashD m p ks cut) p hp ks cut (lastK ks p.length) h0 (cr_loop n rm m p ks cut p.length hp p.length 0 (n + 60) (by omega) hn)
   (cs_loop n rm m p hp h64 ks cut _ (lastK_lt ks p.length).2 p 0 (n + 60) m rfl (by omega) hn)
theorem sync_any (n : Nat) (rm : Int) (m : ML) (p : PL) (hp : p.length ≤ 100000) (hn : p.length ≤ n) (h64 : ok64 p) :
  lrun prog C0 (lcall prog C0 (n + 41)) (n + 41) 17 [.ptr 0 0] ⟨1, [(0, dO rm m p)]⟩ = some (.tup [], ⟨1, [(0, dO rm (applyM p m) [])]⟩) :=
 dsync_ok n rm m (applyM p m) p hp hn h64.okP (applyP_mapE p m)
end Go.Mac
namespace Go.Mac.Nd
open Go Go.Eng Go.Proofs
set_option maxRecDepth 100000
theorem sub_len {α : Type} [BEq α] [LawfulBEq α] : ∀ {l k : List α}, l.Nodup → (∀ x ∈ l, x ∈ k) → l.length ≤ k.length
 | [], _, _, _ => Nat.zero_le _
 | x :: l, k, hn, hs => by
  obtain ⟨h1, h2⟩ := List.nodup_cons.1 hn
  have hx := hs x (by simp)
  have := sub_len (l := l) (k := k.erase x) h2 (fun y hy => (List.mem_erase_of_ne (by rintro rfl; exact h1 hy)).2 (hs y (by simp [hy])))
  rw [List.length_erase_of_mem hx] at this
  have : 0 < k.length := List.length_pos_of_mem hx
  simp; omega
def keysL (l : List (Int × LV)) : List Int := l.map (·.1)
theorem kget_some_iff (n : Int) : ∀ l : List (Int × LV), (kget l n).isSome = true ↔ n ∈ keysL l
 | [] => by simp [kget, keysL]
 | (k, v) :: l => by
  have ih := kget_some_iff n l
  simp only [kget, keysL, List.map_cons, List.mem_cons]
  split
  ·rename_i h; simp [h]
  ·rename_i h
   rw [ih]
   constructor
   ·exact fun q => .inr q
   ·rintro (q | q)
    ·exact absurd q.symm h
    ·exact q
theorem kset_keys (n : Int) (x : LV) : ∀ l : List (Int × LV), keysL (kset l n x) = keysL l
 | [] => rfl
 | (k, v) :: l => by
  have ih := kset_keys n x l
  simp only [kset]
  split
  ·rename_i h; simp [keysL, h]
  ·simp only [keysL, List.map_cons] at ih ⊢; rw [ih]
theorem kins_perm (n : Int) (x : LV) : ∀ l : List (Int × LV), (keysL (kins l n x)).Perm (n :: keysL l)
 | [] => .refl _
 | (k, v) :: l => by
  have ih := kins_perm n x l
  simp only [kins]
  split
  ·exact .refl _
  ·simp only [keysL, List.map_cons] at ih ⊢
   exact (ih.cons k).trans (.swap _ _ _)
theorem kput_keys (l : List (Int × LV)) (n : Int) (x : LV) : (n ∈ keysL l → keysL (kput l n x) = keysL l) ∧ (n ∉ keysL l → (keysL (kput l n x)).Perm (n :: keysL l)) := by
 unfold kput
 constructor
 ·intro h; rw [if_pos ((kget_some_iff n l).2 h)]; exact kset_keys n x l
 ·intro h; rw [if_neg (fun h' => h ((kget_some_iff n l).1 h'))]; exact kins_perm n x l
theorem kinc_keys (l : List (Int × LV)) (n : Int) : (n ∈ keysL l → keysL (kinc l n) = keysL l) ∧ (n ∉ keysL l → (keysL (kinc l n)).Perm (n :: keysL l)) := by
 unfold kinc
 split
 ·exact kput_keys l n _
 ·exact kput_keys l n _
theorem kinc_mem (l : List (Int × LV)) (n a : Int) : a ∈ keysL (kinc l n) ↔ a = n ∨ a ∈ keysL l := by
 by_cases h : n ∈ keysL l
 ·rw [(kinc_keys l n).1 h]
  exact ⟨.inr, by rintro (rfl | q); exact h; exact q⟩
 ·rw [((kinc_keys l n).2 h).mem_iff]; simp
theorem kinc_nodup (l : List (Int × LV)) (n : Int) (hn : (keysL l).Nodup) : (keysL (kinc l n)).Nodup := by
 by_cases h : n ∈ keysL l
 ·rw [(kinc_keys l n).1 h]; exact hn
 ·exact ((kinc_keys l n).2 h).nodup_iff.2 (List.nodup_cons.2 ⟨h, hn⟩)
theorem kincs_mem : ∀ (ks : List Int) (l : List (Int × LV)) (a : Int), a ∈ keysL (List.foldl kinc l ks) ↔ a ∈ ks ∨ a ∈ keysL l
 | [], l, a => by simp
 | k :: ks, l, a => by
  rw [List.foldl_cons, kincs_mem ks, kinc_mem]
  simp only [List.mem_cons]
  constructor
  ·rintro (h | h | h)
   ·exact .inl (.inr h)
   ·exact .inl (.inl h)
   ·exact .inr h
  ·rintro ((h | h) | h)
   ·exact .inr (.inl h)
   ·exact .inl h
   ·exact .inr (.inr h)
theorem kincs_nodup : ∀ (ks : List Int) (l : List (Int × LV)), (keysL l).Nodup → (keysL (List.foldl kinc l ks)).Nodup
 | [], l, h => h
 | k :: ks, l, h => kincs_nodup ks _ (kinc_nodup l k h)
theorem pendN_some (a : Int) (b : List Int) (p : List LV) (l : List (Int × LV)) : pendN (pnd (a, some b) :: p) l = pendN p (kinc l a) := rfl
theorem pendN_none (a : Int) (p : List LV) (l : List (Int × LV)) : pendN (pnd (a, none) :: p) l = pendN p l := rfl
theorem pendN_mem : ∀ (p : PL) (l : List (Int × LV)) (a : Int), a ∈ keysL (pendN (pnds p) l) ↔ (∃ b, (a, some b) ∈ p) ∨ a ∈ keysL l
 | [], l, a => by simp [pendN]
 | (k, some b) :: p, l, a => by
  show a ∈ keysL (pendN (pnd (k, some b) :: pnds p) l) ↔ _
  rw [pendN_some, pendN_mem p, kinc_mem]
  constructor
  ·rintro (⟨c, h⟩ | h | h)
   ·exact .inl ⟨c, by simp [h]⟩
   ·exact .inl ⟨b, by simp [h]⟩
   ·exact .inr h
  ·rintro (⟨c, h⟩ | h)
   ·rcases List.mem_cons.1 h with h | h
    ·injection h with h1 h2; exact .inr (.inl h1)
    ·exact .inl ⟨c, h⟩
   ·exact .inr (.inr h)
 | (k, none) :: p, l, a => by
  show a ∈ keysL (pendN (pnd (k, none) :: pnds p) l) ↔ _
  rw [pendN_none, pendN_mem p]
  simp
theorem pendN_nodup : ∀ (p : PL) (l : List (Int × LV)), (keysL l).Nodup → (keysL (pendN (pnds p) l)).Nodup
 | [], l, h => h
 | (k, some b) :: p, l, h => by
  show (keysL (pendN (pnd (k, some b) :: pnds p) l)).Nodup
  rw [pendN_some]; exact pendN_nodup p _ (kinc_nodup l k h)
 | (k, none) :: p, l, h => by
  show (keysL (pendN (pnd (k, none) :: pnds p) l)).Nodup
  rw [pendN_none]; exact pendN_nodup p _ h
theorem needs_mem (m : ML) (p : PL) (a : Int) : a ∈ keysL (needs m p) ↔ a ∈ mapK m ∨ ∃ b, (a, some b) ∈ p := by
 unfold needs
 rw [pendN_mem, kincs_mem]
 simp only [keysL, List.map_nil, List.not_mem_nil, or_false]
 exact Or.comm
theorem needs_nodup (m : ML) (p : PL) : (keysL (needs m p)).Nodup :=
 pendN_nodup p _ (kincs_nodup _ _ (by simp [keysL]))
theorem needs_length (m : ML) (p : PL) : (needs m p).length = (keysL (needs m p)).length := by simp [keysL]
theorem needs_le (m m' : ML) (p p' : PL) (h : ∀ a, a ∈ keysL (needs m' p') → a ∈ keysL (needs m p)) : (needs m' p').length ≤ (needs m p).length := by
 rw [needs_length, needs_length]; exact sub_len (needs_nodup m' p') h
theorem needs_eq (m m' : ML) (p p' : PL) (h : ∀ a, a ∈ keysL (needs m' p') ↔ a ∈ keysL (needs m p)) : (needs m' p').length = (needs m p).length :=
 Nat.le_antisymm (needs_le m m' p p' fun a => (h a).1) (needs_le m' m p' p fun a => (h a).2)
theorem needs_more (m : ML) (p : PL) (a : Int) (b : List Int) : (needs m (p ++ [(a, some b)])).length ≤ (needs m p).length + 1 := by
 rw [needs_length, needs_length]
 refine Nat.le_trans (sub_len (k := a :: keysL (needs m p)) (needs_nodup _ _) fun x hx => ?_) (by simp)
 rw [needs_mem] at hx
 rw [List.mem_cons, needs_mem]
 rcases hx with h | ⟨c, h⟩
 ·exact .inr (.inl h)
 ·rcases List.mem_append.1 h with h | h
  ·exact .inr (.inr ⟨c, h⟩)
  ·simp at h; exact .inl h.1
theorem needs_same (m : ML) (p : PL) (a : Int) (b : List Int) (h : a ∈ keysL (needs m p)) : (needs m (p ++ [(a, some b)])).length = (needs m p).length := by
 refine needs_eq _ _ _ _ fun x => ?_
 rw [needs_mem, needs_mem]
 constructor
 ·rintro (q | ⟨c, q⟩)
  ·exact .inl q
  ·rcases List.mem_append.1 q with q | q
   ·exact .inr ⟨c, q⟩
   ·simp at q
    rw [q.1, ← needs_mem]; exact h
 ·rintro (q | ⟨c, q⟩)
  ·exact .inl q
  ·exact .inr ⟨c, by simp [q]⟩
theorem needs_free (m : ML) (p : PL) (a : Int) : (needs m (p ++ [(a, none)])).length = (needs m p).length := by
 refine needs_eq _ _ _ _ fun x => ?_
 rw [needs_mem, needs_mem]
 constructor
 ·rintro (q | ⟨c, q⟩)
  ·exact .inl q
  ·simp at q; exact .inr ⟨c, q⟩
 ·rintro (q | ⟨c, q⟩)
  ·exact .inl q
  ·exact .inr ⟨c, by simp [q]⟩
theorem needs_none (l : List (Int × LV)) (a : Int) : kget l a = none ↔ a ∉ keysL l := by
 rw [← kget_some_iff]; simp
theorem needs_int (m : ML) (p : PL) : ∀ x ∈ needs m p, ∃ c, x.2 = .int .i64 c ∧ 0 < c := by
 have hk : ∀ (l : List (Int × LV)) (n : Int), (∀ x ∈ l, ∃ c, x.2 = .int .i64 c ∧ 0 < c) → ∀ x ∈ kinc l n, ∃ c, x.2 = .int .i64 c ∧ 0 < c := by
  intro l n h x hx
  have hg : ∀ c, kget l n = some c → ∃ k, c = .int .i64 k ∧ 0 < k := by
   intro c hc
   have : ∀ l : List (Int × LV), kget l n = some c → (n, c) ∈ l := by
    intro l
    induction l with
    | nil => simp [kget]
    | cons y l ih =>
     obtain ⟨k, v⟩ := y
     simp only [kget]
     split
     ·rename_i e; intro h; injection h with h; subst h; subst e; simp
     ·intro h; exact List.mem_cons_of_mem _ (ih h)
   obtain ⟨k, h1, h2⟩ := h _ (this l hc)
   exact ⟨k, h1, h2⟩
  have hp : ∀ (v : Int), 0 < v → ∀ x ∈ kput l n (.int .i64 v), ∃ c, x.2 = .int .i64 c ∧ 0 < c := by
   intro v hv x hx
   have hs : ∀ l : List (Int × LV), (∀ x ∈ l, ∃ c, x.2 = .int .i64 c ∧ 0 < c) → ∀ x ∈ kset l n (.int .i64 v), ∃ c, x.2 = .int .i64 c ∧ 0 < c := by
    intro l
    induction l with
    | nil => simp [kset]
    | cons y l ih =>
     obtain ⟨k, w⟩ := y
     intro h
     simp only [kset]
     split
     ·intro x hx
      rcases List.mem_cons.1 hx with rfl | hx
      ·exact ⟨v, rfl, hv⟩
      ·exact h x (by simp [hx])
     ·intro x hx
      rcases List.mem_cons.1 hx with rfl | hx
      ·exact h _ (by simp)
      ·exact ih (fun x hx => h x (by simp [hx])) x hx
   have hi : ∀ l : List (Int × LV), (∀ x ∈ l, ∃ c, x.2 = .int .i64 c ∧ 0 < c) → ∀ x ∈ kins l n (.int .i64 v), ∃ c, x.2 = .int .i64 c ∧ 0 < c := by
    intro l
    induction l with
    | nil => simp only [kins]; intro _ x hx; simp at hx; subst hx; exact ⟨v, rfl, hv⟩
    | cons y l ih =>
     obtain ⟨k, w⟩ := y
     intro h
     simp only [kins]
     split
     ·intro x hx
      rcases List.mem_cons.1 hx with rfl | hx
      ·exact ⟨v, rfl, hv⟩
      ·exact h x hx
     ·intro x hx
      rcases List.mem_cons.1 hx with rfl | hx
      ·exact h _ (by simp)
      ·exact ih (fun x hx => h x (by simp [hx])) x hx
   unfold kput at hx
   split at hx
   ·exact hs l h x hx
   ·exact hi l h x hx
  unfold kinc at hx
  split at hx
  ·rename_i k c hc
   obtain ⟨q, h1, h2⟩ := hg _ hc
   injection h1 with _ h1
   exact hp (c + 1) (by omega) x hx
  ·exact hp 1 (by omega) x hx
 have hf : ∀ (ks : List Int) (l : List (Int × LV)), (∀ x ∈ l, ∃ c, x.2 = .int .i64 c ∧ 0 < c) → ∀ x ∈ List.foldl kinc l ks, ∃ c, x.2 = .int .i64 c ∧ 0 < c := by
  intro ks
  induction ks with
  | nil => exact fun l h => h
  | cons k ks ih => exact fun l h => ih _ (hk l k h)
 have hq : ∀ (p : PL) (l : List (Int × LV)), (∀ x ∈ l, ∃ c, x.2 = .int .i64 c ∧ 0 < c) → ∀ x ∈ pendN (pnds p) l, ∃ c, x.2 = .int .i64 c ∧ 0 < c := by
  intro p
  induction p with
  | nil => exact fun l h => h
  | cons y p ih =>
   obtain ⟨a, o⟩ := y
   intro l h
   cases o with
   | none => exact ih l h
   | some b => exact ih _ (hk l a h)
 exact hq p _ (hf _ _ (by simp))
theorem needs_at (m : ML) (p : PL) (a : Int) (h : a ∈ keysL (needs m p)) : ∃ c, kget (needs m p) a = some (.int .i64 c) ∧ 0 < c := by
 have h1 := (kget_some_iff a (needs m p)).2 h
 obtain ⟨v, hv⟩ := Option.isSome_iff_exists.1 h1
 have : ∀ l : List (Int × LV), kget l a = some v → (a, v) ∈ l := by
  intro l
  induction l with
  | nil => simp [kget]
  | cons y l ih =>
   obtain ⟨k, w⟩ := y
   simp only [kget]
   split
   ·rename_i e; intro h; injection h with h; subst h; subst e; simp
   ·intro h; exact List.mem_cons_of_mem _ (ih h)
 obtain ⟨c, h2, h3⟩ := needs_int m p _ (this _ hv)
 simp only at h2
 subst h2
 exact ⟨c, hv, h3⟩
def Asc (m : ML) : Prop := (mapK m).Pairwise (· < ·)
theorem mset_keys (n : Int) (x : List Int) : ∀ m : ML, mapK (mset m n x) = mapK m
 | [] => rfl
 | (k, v) :: m => by
  have ih := mset_keys n x m
  simp only [mset]
  split
  ·rename_i h; simp [mapK, h]
  ·simp only [mapK, List.map_cons] at ih ⊢; rw [ih]
theorem mins_mem (n : Int) (x : List Int) (a : Int) : ∀ m : ML, a ∈ mapK (mins m n x) ↔ a = n ∨ a ∈ mapK m
 | [] => by simp [mins, mapK]
 | (k, v) :: m => by
  have ih := mins_mem n x a m
  simp only [mins]
  split
  ·simp [mapK]
  ·simp only [mapK, List.map_cons, List.mem_cons] at ih ⊢
   rw [ih]
   constructor
   ·rintro (h | h | h)
    ·exact .inr (.inl h)
    ·exact .inl h
    ·exact .inr (.inr h)
   ·rintro (h | h | h)
    ·exact .inr (.inl h)
    ·exact .inl h
    ·exact .inr (.inr h)
theorem mins_asc (n : Int) (x : List Int) : ∀ m : ML, Asc m → n ∉ mapK m → Asc (mins m n x)
 | [], _, _ => by simp [mins, Asc, mapK]
 | (k, v) :: m, h, hn => by
  have hp : (k :: mapK m).Pairwise (· < ·) := h
  obtain ⟨h1, h2⟩ := List.pairwise_cons.1 hp
  have hnk : n ≠ k := fun e => hn (by simp [mapK, e])
  have hnm : n ∉ mapK m := fun e => hn (by simp only [mapK, List.map_cons, List.mem_cons]; exact .inr e)
  simp only [mins]
  split
  ·rename_i hlt
   show (n :: k :: mapK m).Pairwise (· < ·)
   refine .cons (fun y hy => ?_) hp
   rcases List.mem_cons.1 hy with rfl | hy
   ·exact hlt
   ·have := h1 y hy; omega
  ·rename_i hge
   have ih := mins_asc n x m h2 hnm
   show (k :: mapK (mins m n x)).Pairwise (· < ·)
   refine .cons (fun y hy => ?_) ih
   rcases (mins_mem n x y m).1 hy with rfl | hy
   ·omega
   ·exact h1 y hy
theorem mget_some_iff (n : Int) : ∀ m : ML, (mget m n).isSome = true ↔ n ∈ mapK m
 | [] => by simp [mget, mapK]
 | (k, v) :: m => by
  have ih := mget_some_iff n m
  simp only [mget, mapK, List.map_cons, List.mem_cons] at ih ⊢
  split
  ·rename_i h; simp [h]
  ·rename_i h
   rw [ih]
   constructor
   ·exact fun q => .inr q
   ·rintro (q | q)
    ·exact absurd q.symm h
    ·exact q
theorem mput2_asc {m : ML} (h : Asc m) (n : Int) (x : List Int) : Asc (mput2 m n x) := by
 unfold mput2
 split
 ·unfold Asc; rw [mset_keys]; exact h
 ·rename_i hn
  exact mins_asc n x m h (fun q => hn ((mget_some_iff n m).2 q))
theorem mput2_mem (m : ML) (n : Int) (x : List Int) (a : Int) : a ∈ mapK (mput2 m n x) ↔ a = n ∨ a ∈ mapK m := by
 unfold mput2
 split
 ·rename_i h
  rw [mset_keys]
  exact ⟨.inr, by rintro (rfl | q); exact (mget_some_iff _ _).1 h; exact q⟩
 ·exact mins_mem n x a m
theorem mdel_sub (n : Int) : ∀ m : ML, (mdel m n).Sublist m
 | [] => .slnil
 | (k, v) :: m => by
  simp only [mdel]
  split
  ·exact List.sublist_cons_self _ _
  ·exact (mdel_sub n m).cons_cons _
theorem mdel_asc {m : ML} (h : Asc m) (n : Int) : Asc (mdel m n) := h.sublist ((mdel_sub n m).map _)
theorem mdel_mem {m : ML} {n a : Int} (h : a ∈ mapK (mdel m n)) : a ∈ mapK m := ((mdel_sub n m).map (·.1)).subset h
theorem mset_val {m : ML} {n : Int} {x : List Int} : ∀ {y : Int × List Int}, y ∈ mset m n x → y ∈ m ∨ y = (n, x) := by
 induction m with
 | nil => intro y hy; simp [mset] at hy
 | cons z m ih =>
  obtain ⟨k, v⟩ := z
  intro y hy
  simp only [mset] at hy
  split at hy
  ·rcases List.mem_cons.1 hy with rfl | hy
   ·exact .inr rfl
   ·exact .inl (by simp [hy])
  ·rcases List.mem_cons.1 hy with rfl | hy
   ·exact .inl (by simp)
   ·exact (ih hy).imp (fun q => by simp [q]) id
theorem mins_val {m : ML} {n : Int} {x : List Int} : ∀ {y : Int × List Int}, y ∈ mins m n x → y ∈ m ∨ y = (n, x) := by
 induction m with
 | nil => intro y hy; simp [mins] at hy; exact .inr hy
 | cons z m ih =>
  obtain ⟨k, v⟩ := z
  intro y hy
  simp only [mins] at hy
  split at hy
  ·rcases List.mem_cons.1 hy with rfl | hy
   ·exact .inr rfl
   ·exact .inl hy
  ·rcases List.mem_cons.1 hy with rfl | hy
   ·exact .inl (by simp)
   ·exact (ih hy).imp (fun q => by simp [q]) id
theorem mput2_val {m : ML} {n : Int} {x : List Int} {y : Int × List Int} (h : y ∈ mput2 m n x) : y ∈ m ∨ y = (n, x) := by
 unfold mput2 at h
 split at h
 ·exact mset_val h
 ·exact mins_val h
def inR (a : Int) : Prop := 0 ≤ a ∧ a ≤ 1073741824
def okM (m : ML) : Prop := Asc m ∧ ∀ x ∈ m, inR x.1 ∧ x.2.length = 64
def okQ (p : PL) : Prop := ∀ x ∈ p, inR x.1 ∧ ∀ b, x.2 = some b → b.length = 64
theorem okM.put {m : ML} (h : okM m) {a : Int} (ha : inR a) {b : List Int} (hb : b.length = 64) : okM (mput2 m a b) :=
 ⟨mput2_asc h.1 a b, fun x hx => (mput2_val hx).elim (h.2 x) (by rintro rfl; exact ⟨ha, hb⟩)⟩
theorem okM.del {m : ML} (h : okM m) (a : Int) : okM (mdel m a) := ⟨mdel_asc h.1 a, fun x hx => h.2 x ((mdel_sub a m).subset hx)⟩
theorem okM.nil : okM [] := ⟨by simp [Asc, mapK], by simp⟩
theorem okM.apply : ∀ {p : PL} {m : ML}, okQ p → okM m → okM (applyM p m)
 | [], m, _, h => h
 | (a, some b) :: q, m, hp, h => by
  have hx := hp (a, some b) (by simp)
  exact okM.apply (p := q) (fun x hx => hp x (by simp [hx])) (h.put hx.1 (hx.2 b rfl))
 | (a, none) :: q, m, hp, h => okM.apply (p := q) (fun x hx => hp x (by simp [hx])) (h.del a)
theorem apply_mem : ∀ {p : PL} {m : ML} {a : Int}, a ∈ mapK (applyM p m) → a ∈ mapK m ∨ ∃ b, (a, some b) ∈ p
 | [], m, a, h => .inl h
 | (k, some b) :: q, m, a, h => by
  rcases apply_mem (p := q) h with h | ⟨c, h⟩
  ·rcases (mput2_mem m k b a).1 h with rfl | h
   ·exact .inr ⟨b, by simp⟩
   ·exact .inl h
  ·exact .inr ⟨c, by simp [h]⟩
 | (k, none) :: q, m, a, h => by
  rcases apply_mem (p := q) h with h | ⟨c, h⟩
  ·exact .inl (mdel_mem h)
  ·exact .inr ⟨c, by simp [h]⟩
theorem cur_length (m : ML) (a : Int) : (cur m a).length = 64 := by
 unfold cur; split <;> simp
theorem torn_length (m : ML) (a : Int) (b : List Int) (hb : b.length = 64) (n : Nat) : (spliceI (cur m a) 0 (b.take n)).length = 64 := by
 rw [spliceI_length, cur_length]; simp; omega
theorem step_val (ks : List Int) (cut last : Int) (k : Nat) (m : ML) (x : Int × Option (List Int)) (hx : inR x.1 ∧ ∀ b, x.2 = some b → b.length = 64) (h : okM m) :
  okM (stepM ks cut last k m x) ∧ ∀ a, a ∈ mapK (stepM ks cut last k m x) → a ∈ mapK m ∨ ∃ b, x = (a, some b) := by
 unfold stepM
 split
 ·exact ⟨h, fun a => .inl⟩
 ·obtain ⟨n, o⟩ := x
  cases o with
  | none => exact ⟨h.del n, fun a ha => .inl (mdel_mem ha)⟩
  | some b =>
   have hb := hx.2 b rfl
   simp only
   split
   ·exact ⟨h.put hx.1 (torn_length m n b hb _), fun a ha => ((mput2_mem _ _ _ _).1 ha).elim (fun e => .inr ⟨b, by rw [e]⟩) .inl⟩
   ·exact ⟨h.put hx.1 hb, fun a ha => ((mput2_mem _ _ _ _).1 ha).elim (fun e => .inr ⟨b, by rw [e]⟩) .inl⟩
theorem crashM_ok (ks : List Int) (cut last : Int) : ∀ (p : PL) (k : Nat) (m : ML), okQ p → okM m →
  okM (crashM ks cut last p k m) ∧ ∀ a, a ∈ mapK (crashM ks cut last p k m) → a ∈ mapK m ∨ ∃ b, (a, some b) ∈ p
 | [], k, m, _, h => ⟨h, fun a => .inl⟩
 | x :: q, k, m, hp, h => by
  obtain ⟨s1, s2⟩ := step_val ks cut last k m x (hp x (by simp)) h
  obtain ⟨h1, h2⟩ := crashM_ok ks cut last q (k + 1) _ (fun y hy => hp y (by simp [hy])) s1
  refine ⟨h1, fun a ha => ?_⟩
  rcases h2 a ha with h | ⟨b, h⟩
  ·rcases s2 a h with h | ⟨b, h⟩
   ·exact .inl h
   ·exact .inr ⟨b, by simp [h]⟩
  ·exact .inr ⟨b, by simp [h]⟩
theorem okQ.ok64 {p : PL} (h : okQ p) : ok64 p := fun x hx b hb => (h x hx).2 b hb
theorem okQ.snoc {p : PL} (h : okQ p) {a : Int} (ha : inR a) (o : Option (List Int)) (ho : ∀ b, o = some b → b.length = 64) : okQ (p ++ [(a, o)]) := by
 intro x hx
 rcases List.mem_append.1 hx with hx | hx
 ·exact h x hx
 ·simp at hx; subst hx; exact ⟨ha, ho⟩
theorem okM.keys {m : ML} (h : okM m) (hl : m.length ≤ 1000000) : keysOk (mapE m) := by
 refine ⟨?_, ?_, by simpa [mapE] using hl⟩
 ·rw [show (mapE m).map (·.1) = mapK m from mapE_fst m]
  have : ∀ l : List Int, l.Pairwise (· < ·) → ascB l = true := by
   intro l
   induction l with
   | nil => intro _; rfl
   | cons a l ih =>
    intro h
    obtain ⟨h1, h2⟩ := List.pairwise_cons.1 h
    cases l with
    | nil => rfl
    | cons b l =>
     simp only [ascB, Bool.and_eq_true, decide_eq_true_eq]
     exact ⟨h1 b (by simp), ih h2⟩
  exact this _ h.1
 ·intro x hx
  simp only [mapE, List.mem_map] at hx
  obtain ⟨y, hy, rfl⟩ := hx
  obtain ⟨⟨h1, h2⟩, _⟩ := h.2 y hy
  simp only
  omega
theorem needs_of (m : ML) (h : Asc m) : (needs m []).length = m.length := by
 have h1 : (mapK m).Nodup := h.imp (fun h => by omega)
 have h2 : m.length = (mapK m).length := by simp [mapK]
 rw [needs_length, h2]
 refine Nat.le_antisymm (sub_len (needs_nodup m []) fun a ha => ?_) (sub_len h1 fun a ha => ?_)
 ·rw [needs_mem] at ha; simpa using ha
 ·rw [needs_mem]; exact .inl ha
end Go.Mac.Nd
namespace Go.Mac
open Go Go.Eng Go.Proofs Go.Mac.Nd
open Go.Proofs.Tryd (prog)
set_option maxRecDepth 100000
theorem okQ.nil : okQ [] := by intro x h; exact nomatch h
theorem blk64 {b : List Int} (h : b.length = 64) : blk b = b := by
 rw [← blk_padS]; rw [List.take_append_of_le_length (by omega), List.take_of_length_le (by omega)]
theorem splice_blk {b : List Int} (h : b.length ≤ 64) : spliceI (List.replicate 64 0) 0 b = blk b := by
 unfold blk
 rw [Nat.min_eq_left h, List.take_of_length_le (Nat.le_refl _)]
theorem write_any (rm : Int) (m : ML) (p : PL) (hp : p.length ≤ 10000) (ho : okQ p) (a : Int) (ha : inR a) (b : List Int) (hb : b.length ≤ 64) :
  (∃ u : Nat, (needs m (p ++ [(a, some (blk b))])).length = u ∧ (u : Int) ≤ max rm (needs m p).length ∧ (a ∈ keysL (needs m p) ∨ ((needs m p).length : Int) < rm) ∧ ∀ k, lrun prog C0 (lcall prog C0 (k + 20)) (k + 20) 19 [.ptr 0 0, .int .i64 a, .isl 1 (bys b)] ⟨1, [(0, dO rm m p)]⟩ = some (.nili, ⟨1, [(0, dO rm m (p ++ [(a, some (blk b))]))]⟩)) ∨
  (a ∉ keysL (needs m p) ∧ rm ≤ (needs m p).length ∧ ∀ k, lrun prog C0 (lcall prog C0 (k + 20)) (k + 20) 19 [.ptr 0 0, .int .i64 a, .isl 1 (bys b)] ⟨1, [(0, dO rm m p)]⟩ = some (flt [98,108,111,99,107] a 7, ⟨1, [(0, dO rm m p)]⟩)) := by
 by_cases hm : a ∈ keysL (needs m p)
 ·obtain ⟨c, h1, h2⟩ := needs_at m p a hm
  refine .inl ⟨_, rfl, ?_, .inl hm, fun k => ?_⟩
  ·rw [needs_same m p a _ hm]; omega
  ·rw [← splice_blk hb]; exact write_old k a b rm m p ha.1 ha.2 hb (by omega) ho.ok64.okP c h1 h2
 ·by_cases hr : ((needs m p).length : Int) < rm
  ·refine .inl ⟨_, rfl, ?_, .inr hr, fun k => ?_⟩
   ·have := needs_more m p a (blk b); omega
   ·rw [← splice_blk hb]; exact write_new k a b rm m p ha.1 ha.2 hb (by omega) ho.ok64.okP ((needs_none _ _).2 hm) hr
  ·exact .inr ⟨hm, by omega, fun k => write_full k a b rm m p ha.1 ha.2 hb (by omega) ho.ok64.okP ((needs_none _ _).2 hm) (by omega)⟩
theorem inR_not {a : Int} (h : ¬ inR a) : a < 0 ∨ 1073741824 < a := by unfold inR at h; omega
theorem sync_needs (m : ML) (p : PL) : (needs (applyM p m) []).length ≤ (needs m p).length := needs_le _ _ _ _ fun a ha => by
 rw [needs_mem] at ha ⊢
 rcases ha with h | ⟨b, h⟩
 ·exact apply_mem h
 ·simp at h
theorem crash_needs (m : ML) (p : PL) (hp : okQ p) (hm : okM m) (ks : List Int) (cut : Int) : (needs (crashD m p ks cut) []).length ≤ (needs m p).length := needs_le _ _ _ _ fun a ha => by
 rw [needs_mem] at ha ⊢
 rcases ha with h | ⟨b, h⟩
 ·exact (crashM_ok ks cut _ p 0 m hp hm).2 a h
 ·simp at h
set_option maxHeartbeats 0
def cellR (x : Int × List Int) : LV := .agg [.int .i64 x.1, .isl 1 (bys x.2)]
def cellsR (m : ML) : List LV := m.map cellR
@[simp] theorem cellsR_length (m : ML) : (cellsR m).length = m.length := by simp [cellsR]
def looR (x : Int × Option (List Int)) : LV := match x.2 with
 | some b => .agg [.int .i64 x.1, .bool false, .isl 1 (bys b)]
 | none => .agg [.int .i64 x.1, .bool true, .nils]
def loosR (p : PL) : List LV := p.map looR
@[simp] theorem loosR_length (p : PL) : (loosR p).length = p.length := by simp [loosR]
abbrev rR (rm : Int) (m : ML) (p : PL) : LV := .agg [.int .i64 rm, .isl 2 (cellsR m), .isl 3 (loosR p)]
theorem cellsR_at {m : ML} {i : Nat} {x : Int × List Int} (h : m[i]? = some x) : (cellsR m)[i]? = some (.agg [.int .i64 x.1, .isl 1 (bys x.2)]) := by simp [cellsR, cellR, h]
@[simp] theorem sealL_loosR : ∀ p : PL, sealL (loosR p) = loosR p
 | [] => rfl
 | (a, some b) :: p => by
  show sealL (looR (a, some b) :: loosR p) = _
  simp only [looR, sealL, sealV]
  rw [sealL_loosR p]; rfl
 | (a, none) :: p => by
  show sealL (looR (a, none) :: loosR p) = _
  simp only [looR, sealL, sealV]
  rw [sealL_loosR p]; rfl
@[simp] theorem sealL_cellsR : ∀ m : ML, sealL (cellsR m) = cellsR m
 | [] => rfl
 | (a, b) :: m => by
  show sealL (cellR (a, b) :: cellsR m) = _
  simp only [cellR, sealL, sealV]
  rw [sealL_cellsR m]; rfl
@[simp] theorem okElems_loosR (f : Bool) (p : PL) : okElems f 3 (loosR p) = true := by
 unfold okElems loosR
 rw [List.all_eq_true]
 intro x hx
 obtain ⟨⟨a, o⟩, _, rfl⟩ := List.mem_map.1 hx
 cases o <;> cases f <;> rfl
@[simp] theorem okElems_cellsR (f : Bool) (m : ML) : okElems f 2 (cellsR m) = true := by
 unfold okElems cellsR
 rw [List.all_eq_true]
 intro x hx
 obtain ⟨y, _, rfl⟩ := List.mem_map.1 hx
 cases f <;> rfl
end Go.Mac
namespace Go.Mac
open Go Go.Eng Go.Proofs Go.Mac.Nd
open Go.IntKind (i64)
open Go.Proofs.Tryd (prog)
set_option maxHeartbeats 0
set_option maxRecDepth 100000
theorem kept_1 (n : Nat) (ks : List Int) (k : Nat) (hk : k < ks.length) (h : ¬ atI ks k = 0) :
  lrun prog Ck (lcall prog Ck (n + 10)) (n + 10) 52 [.isl 1 (ints ks), .int .i64 k] ⟨0, []⟩ = some (.bool true, ⟨0, []⟩) := by
 have f1 : decide ((↑k : Int) < ((ints ks).length : Int)) = true := by simp; omega
 have f2 : (ints ks)[Int.toNat (↑k : Int)]? = some (LV.int i64 (atI ks k)) := by simp (disch := omega)
 have f3 : 0 ≤ (↑k : Int) ∧ (↑k : Int) < ((ints ks).length : Int) := by simp; omega
 have f4 : LV.bool (if decide ((↑k : Int) < ((ints ks).length : Int)) = true then !decide (atI ks k = 0) else false) = LV.bool true := by simp; omega
 exact drn (fun h => ai (congrArg some f1) <| ai (congrArg some f1) <| ai (congrArg some f1) <| ai (f3) <| ai (f2) <| ai (congrArg some f1) <| ai (congrArg some f1) <| ai (f4) <| h) (.s (.a) (.s (.r [.a, .a, .a, .a, .a, .g true (.a), .g true (.a), .g true (.e (rOf f2)), .g true (.a), .g true (.a), .v (vOf f4) (.a)]) (.a))) [] .a (by kernel_rfl)
theorem kept_0 (n : Nat) (ks : List Int) (k : Nat) (hk : k < ks.length) (h : atI ks k = 0) :
  lrun prog Ck (lcall prog Ck (n + 10)) (n + 10) 52 [.isl 1 (ints ks), .int .i64 k] ⟨0, []⟩ = some (.bool false, ⟨0, []⟩) := by
 have f1 : decide ((↑k : Int) < ((ints ks).length : Int)) = true := by simp; omega
 have f2 : (ints ks)[Int.toNat (↑k : Int)]? = some (LV.int i64 0) := by (simp (disch := first | omega | (simp; omega)); omega)
 have f3 : 0 ≤ (↑k : Int) ∧ (↑k : Int) < ((ints ks).length : Int) := by simp; omega
 have f4 : LV.bool (if decide ((↑k : Int) < ((ints ks).length : Int)) = true then false else false) = LV.bool false := by simp
 exact drn (fun h => ai (congrArg some f1) <| ai (congrArg some f1) <| ai (congrArg some f1) <| ai (f3) <| ai (f2) <| ai (congrArg some f1) <| ai (congrArg some f1) <| ai (f4) <| h) (.s (.a) (.s (.r [.a, .a, .a, .a, .a, .g true (.a), .g true (.a), .g true (.e (rOf f2)), .g true (.a), .g true (.a), .v (vOf f4) (.a)]) (.a))) [] .a (by kernel_rfl)
theorem kept_o (n : Nat) (ks : List Int) (k : Nat) (hk : ks.length ≤ k) :
  lrun prog Ck (lcall prog Ck (n + 10)) (n + 10) 52 [.isl 1 (ints ks), .int .i64 k] ⟨0, []⟩ = some (.bool false, ⟨0, []⟩) := by
 have f1 : decide ((↑k : Int) < ((ints ks).length : Int)) = false := by simp; omega
 have f2 : lpick (decide ((↑k : Int) < ((ints ks).length : Int))) LV.any (LV.bool false) = some (LV.bool false) := by simp; omega
 exact drn (fun h => ai (congrArg some f1) <| ai (congrArg some f1) <| ai (congrArg some f1) <| ai (congrArg some f1) <| ai (congrArg some f1) <| ai (x_map (st := (St.mk 0 [])) f2) <| h) (.s (.a) (.s (.r [.a, .a, .a, .a, .a, .g false (.a), .g false (.a), .g false (.a), .g false (.a), .g false (.a), .t (rOf (x_map (st := (St.mk 0 [])) f2))]) (.a))) [] .a (by kernel_rfl)
theorem kept_1I (n : Nat) (ks : List Int) (i : Int) (h0 : 0 ≤ i) (hk : i < (ks.length : Int)) (h : ¬ atI ks i.toNat = 0) : lrun prog Ck (lcall prog Ck (n + 10)) (n + 10) 52 [.isl 1 (ints ks), .int .i64 i] ⟨0, []⟩ = some (.bool true, ⟨0, []⟩) := by
 obtain ⟨k, rfl⟩ := Int.eq_ofNat_of_zero_le h0
 exact kept_1 n ks k (by omega) (by simpa using h)
theorem kept_0I (n : Nat) (ks : List Int) (i : Int) (h0 : 0 ≤ i) (hk : i < (ks.length : Int)) (h : atI ks i.toNat = 0) : lrun prog Ck (lcall prog Ck (n + 10)) (n + 10) 52 [.isl 1 (ints ks), .int .i64 i] ⟨0, []⟩ = some (.bool false, ⟨0, []⟩) := by
 obtain ⟨k, rfl⟩ := Int.eq_ofNat_of_zero_le h0
 exact kept_0 n ks k (by omega) (by simpa using h)
theorem kept_oI (n : Nat) (ks : List Int) (i : Int) (h0 : 0 ≤ i) (hk : (ks.length : Int) ≤ i) : lrun prog Ck (lcall prog Ck (n + 10)) (n + 10) 52 [.isl 1 (ints ks), .int .i64 i] ⟨0, []⟩ = some (.bool false, ⟨0, []⟩) := by
 obtain ⟨k, rfl⟩ := Int.eq_ofNat_of_zero_le h0
 exact kept_o n ks k (by omega)
abbrev rS (rm : Int) (m : ML) (p : PL) : St := ⟨1, [(0, LObj.box 35 [.int i64 rm, .isl 2 (cellsR m), .isl 3 (loosR p)])]⟩
abbrev taE (a i : Int) : LEnv := [.any, .int i64 a, .ptr 0 0, .any, .any, .any, .any, .int i64 i, .any, .any, .any, .any, .any, .any, .any, .any, .any, .any, .any, .any, .any, .any, .any, .any, .any, .any, .any, .any, .any, .any, .any, .any, .any, .any, .any, .any, .any, .any, .any, .any]
abbrev taH (rm : Int) (m : ML) (p : PL) (a i : Int) (w : LV) : LEnv := [.any, .int i64 a, .ptr 0 0, .any, .bool true, .any, .any, .int i64 i, .any, .any, .any, .any, .any, .any, .any, .any, .int i64 i, .ptr 0 2, .isl 3 (loosR p), .int i64 ((loosR p).length : Int), .bool (decide (i < ((loosR p).length : Int))), .any, .any, .ptr 0 2, .isl 3 (loosR p), .int i64 i, (LV.agg [.int i64 a, .bool false, w]).irp, (LV.int i64 a).irp, .int i64 a, .int i64 a, .bool (decide (a = a)), .bool (decide (a = a)), .ptr 0 2, .isl 3 (loosR p), .int i64 i, (LV.agg [.int i64 a, .bool false, w]).irp, (LV.bool false).irp, .bool false, .bool true, .bool true]
abbrev taX (rm : Int) (m : ML) (p : PL) (a i : Int) : LEnv := [.any, .int i64 a, .ptr 0 0, .any, .any, .any, .any, .int i64 i, .any, .any, .any, .any, .any, .any, .any, .any, .int i64 i, .ptr 0 2, .isl 3 (loosR p), .int i64 ((loosR p).length : Int), .bool (decide (i < ((loosR p).length : Int))), .any, .any, .any, .any, .any, .any, .any, .any, .any, .any, .any, .any, .any, .any, .any, .any, .any, .any, .any]
theorem ta_step1 (n fu : Nat) (rm : Int) (m : ML) (p : PL) (hp : p.length ≤ 1000) (a i : Int) (h0 : 0 ≤ i) (hi : i < (p.length : Int)) (c : Int) (v : Bool) (w : LV) (hx : (loosR p)[i.toNat]? = some (.agg [.int .i64 c, .bool v, w])) (hne : ¬ c = a) (r : LX × LEnv × St)
  (hr : loopAt prog C0 (n + 20) 47 0 0 fu (taE a (i + 1)) (rS rm m p) = some r) : loopAt prog C0 (n + 20) 47 0 0 (fu + 1) (taE a i) (rS rm m p) = some r := by
 have f1 : decide (i < ((loosR p).length : Int)) = true := by simp; omega
 have f2 : (loosR p)[i.toNat]? = some (LV.agg [.int i64 c, .bool v, w]) := hx
 have f3 : 0 ≤ i ∧ i < ((loosR p).length : Int) := by simp; omega
 have f4 : decide (c = a) = false := by simp; omega
 have f5 : lpick (decide (c = a)) LV.any (LV.bool false) = some (LV.bool false) := by simp; omega
 have f6 : LV.int i64 (IntKind.wrap i64 (i + 1)) = LV.int i64 (i + 1) := by simp (disch := omega)
 have f7 := hr
 exact dlp (fun h => ai (congrArg LV.bool f1) <| ai (f3) <| ai (f2) <| ai (congrArg some f4) <| ai (congrArg some f4) <| ai (congrArg some f4) <| ai (congrArg some f4) <| ai (congrArg some f4) <| ai (congrArg some f4) <| ai (congrArg some f4) <| ai (x_map (st := (St.mk 1 [(0, LObj.box 35 [.int i64 rm, .isl 2 (cellsR m), .isl 3 (loosR p)])])) f5) <| ai (f6) <| ai (Eq.refl (tidyOf f7)) <| ai (f7) <| h) (.i (.s (.s (.a) (.b true (.a))) (.s (.k (.s (.r [.a, .a, .a, .e (rOf f2), .a, .a, .a, .a, .a, .g false (.a), .g false (.a), .g false (.a), .g false (.a), .g false (.a), .g false (.a), .g false (.a), .t (rOf (x_map (st := (St.mk 1 [(0, LObj.box 35 [.int i64 rm, .isl 2 (cellsR m), .isl 3 (loosR p)])])) f5))]) (.a))) (.r [.a, .v (vOf f6) (.a)]))) (.h [] (eOf f7) (stOf f7) (rOf f7))) (by kernel_rfl)
theorem ta_step2 (n fu : Nat) (rm : Int) (m : ML) (p : PL) (hp : p.length ≤ 1000) (a i : Int) (h0 : 0 ≤ i) (hi : i < (p.length : Int)) (w : LV) (hx : (loosR p)[i.toNat]? = some (.agg [.int .i64 a, .bool true, w])) (r : LX × LEnv × St)
  (hr : loopAt prog C0 (n + 20) 47 0 0 fu (taE a (i + 1)) (rS rm m p) = some r) : loopAt prog C0 (n + 20) 47 0 0 (fu + 1) (taE a i) (rS rm m p) = some r := by
 have f1 : decide (i < ((loosR p).length : Int)) = true := by simp; omega
 have f2 : (loosR p)[i.toNat]? = some (LV.agg [.int i64 a, .bool true, w]) := hx
 have f3 : 0 ≤ i ∧ i < ((loosR p).length : Int) := by simp; omega
 have f4 : decide (a = a) = true := by simp
 have f5 : LV.bool (if decide (a = a) = true then false else false) = LV.bool false := by simp
 have f6 : LV.int i64 (IntKind.wrap i64 (i + 1)) = LV.int i64 (i + 1) := by simp (disch := omega)
 have f7 := hr
 exact dlp (fun h => ai (congrArg LV.bool f1) <| ai (f3) <| ai (f2) <| ai (congrArg some f4) <| ai (congrArg some f4) <| ai (congrArg some f4) <| ai (congrArg some f4) <| ai (f3) <| ai (f2) <| ai (congrArg some f4) <| ai (congrArg some f4) <| ai (congrArg some f4) <| ai (f5) <| ai (f6) <| ai (Eq.refl (tidyOf f7)) <| ai (f7) <| h) (.i (.s (.s (.a) (.b true (.a))) (.s (.k (.s (.r [.a, .a, .a, .e (rOf f2), .a, .a, .a, .a, .a, .g true (.a), .g true (.a), .g true (.a), .g true (.e (rOf f2)), .g true (.a), .g true (.a), .g true (.a), .v (vOf f5) (.a)]) (.a))) (.r [.a, .v (vOf f6) (.a)]))) (.h [] (eOf f7) (stOf f7) (rOf f7))) (by kernel_rfl)
theorem ta_hit (n fu : Nat) (rm : Int) (m : ML) (p : PL) (hp : p.length ≤ 1000) (a i : Int) (h0 : 0 ≤ i) (hi : i < (p.length : Int)) (w : LV) (hx : (loosR p)[i.toNat]? = some (.agg [.int .i64 a, .bool false, w])) :
  loopAt prog C0 (n + 20) 47 0 0 (fu + 1) (taE a i) (rS rm m p) = some (.ret, taH rm m p a i w, rS rm m p) := by
 have f1 : decide (i < ((loosR p).length : Int)) = true := by simp; omega
 have f2 : (loosR p)[i.toNat]? = some (LV.agg [.int i64 a, .bool false, w]) := hx
 have f3 : 0 ≤ i ∧ i < ((loosR p).length : Int) := by simp; omega
 have f4 : decide (a = a) = true := by simp
 have f5 : LV.bool (if decide (a = a) = true then true else false) = LV.bool true := by simp
 exact dlp (fun h => ai (congrArg LV.bool f1) <| ai (f3) <| ai (f2) <| ai (congrArg some f4) <| ai (congrArg some f4) <| ai (congrArg some f4) <| ai (congrArg some f4) <| ai (f3) <| ai (f2) <| ai (congrArg some f4) <| ai (congrArg some f4) <| ai (congrArg some f4) <| ai (f5) <| h) (.i (.s (.s (.a) (.b true (.a))) (.s (.k (.s (.r [.a, .a, .a, .e (rOf f2), .a, .a, .a, .a, .a, .g true (.a), .g true (.a), .g true (.a), .g true (.e (rOf f2)), .g true (.a), .g true (.a), .g true (.a), .v (vOf f5) (.a)]) (.a))) .a)) (.a)) (by kernel_rfl)
theorem ta_end (n fu : Nat) (rm : Int) (m : ML) (p : PL) (hp : p.length ≤ 1000) (a i : Int) (hi : (p.length : Int) ≤ i) :
  loopAt prog C0 (n + 20) 47 0 0 (fu + 1) (taE a i) (rS rm m p) = some (.exit 0, taX rm m p a i, rS rm m p) := by
 have f1 : decide (i < ((loosR p).length : Int)) = false := by simp; omega
 exact dlp (fun h => ai (congrArg LV.bool f1) <| h) (.i (.s (.s (.a) (.b false (.a))) .a) (.a)) (by kernel_rfl)
abbrev syS (rm : Int) (m : ML) (p : PL) (c : ML) : St := ⟨3, [(0, LObj.box 35 [.int i64 rm, .isl 2 (cellsR m), .isl 3 (loosR p)]), (1, LObj.box 35 [.int i64 0, .nils, .nils]), (2, LObj.box 35 [.int i64 rm, .isl 2 (cellsR c), .nils])]⟩
abbrev syE (i : Int) : LEnv := [.any, .ptr 0 0, .ptr 1 0, .ptr 2 0, .int i64 i, .any, .any, .any, .any, .any, .any, .any, .any, .any, .any, .any, .any, .any, .any, .any, .any, .any, .any, .any, .any, .any, .any]
abbrev syX (p : PL) (i : Int) : LEnv := [.any, .ptr 0 0, .ptr 1 0, .ptr 2 0, .int i64 i, .any, .any, .any, .any, .any, .int i64 i, .ptr 0 2, .isl 3 (loosR p), .int i64 ((loosR p).length : Int), .bool (decide (i < ((loosR p).length : Int))), .any, .any, .any, .any, .any, .any, .any, .any, .any, .any, .any, .any]
theorem sy_stepS (n fu : Nat) (rm : Int) (m : ML) (p : PL) (hp : p.length ≤ 1000) (hm : m.length ≤ 100000) (c c' : ML) (i : Int) (h0 : 0 ≤ i) (hi : i < (p.length : Int)) (a : Int) (b : List Int) (hx : (loosR p)[i.toNat]? = some (.agg [.int .i64 a, .bool false, .isl 1 (bys b)]))
  (U : ∀ j, 200 < j → lrun prog C0 (lcall prog C0 (j + 40)) (j + 40) 51 [.isl 2 (cellsR c), .agg [.int .i64 a, .bool false, .isl 1 (bys b)]] ⟨0, []⟩ = some (.isl 2 (cellsR c'), ⟨0, []⟩)) (hn : 200 < n) (r : LX × LEnv × St)
  (hr : loopAt prog C0 (n + 60) 30 0 0 fu (syE (i + 1)) (syS rm m p c') = some r) : loopAt prog C0 (n + 60) 30 0 0 (fu + 1) (syE i) (syS rm m p c) = some r := by
 have f1 : decide (i < ((loosR p).length : Int)) = true := by simp; omega
 have f2 : (loosR p)[i.toNat]? = some (LV.agg [.int i64 a, .bool false, .isl 1 (bys b)]) := hx
 have f3 : 0 ≤ i ∧ i < ((loosR p).length : Int) := by simp; omega
 have f4 := U (n + 19) (by omega)
 have f5 : LV.int i64 (IntKind.wrap i64 (i + 1)) = LV.int i64 (i + 1) := by simp (disch := omega)
 have f6 := hr
 exact dlp (fun h => ai (congrArg LV.bool f1) <| ai (f3) <| ai (f2) <| ai (f4) <| ai (f5) <| ai (Eq.refl (tidyOf f6)) <| ai (f6) <| h) (.i (.s (.s (.a) (.b true (.a))) (.s (.k (.d [] [.a, .a, .a, .a, .a, .e (rOf f2), .a] [] [.f (rOf f4)])) (.r [.a, .v (vOf f5) (.a)]))) (.h [] (eOf f6) (stOf f6) (rOf f6))) (by kernel_rfl)
theorem sy_stepN (n fu : Nat) (rm : Int) (m : ML) (p : PL) (hp : p.length ≤ 1000) (hm : m.length ≤ 100000) (c c' : ML) (i : Int) (h0 : 0 ≤ i) (hi : i < (p.length : Int)) (a : Int) (hx : (loosR p)[i.toNat]? = some (.agg [.int .i64 a, .bool true, .nils]))
  (U : ∀ j, 200 < j → lrun prog C0 (lcall prog C0 (j + 40)) (j + 40) 51 [.isl 2 (cellsR c), .agg [.int .i64 a, .bool true, .nils]] ⟨0, []⟩ = some (.isl 2 (cellsR c'), ⟨0, []⟩)) (hn : 200 < n) (r : LX × LEnv × St)
  (hr : loopAt prog C0 (n + 60) 30 0 0 fu (syE (i + 1)) (syS rm m p c') = some r) : loopAt prog C0 (n + 60) 30 0 0 (fu + 1) (syE i) (syS rm m p c) = some r := by
 have f1 : decide (i < ((loosR p).length : Int)) = true := by simp; omega
 have f2 : (loosR p)[i.toNat]? = some (LV.agg [.int i64 a, .bool true, .nils]) := hx
 have f3 : 0 ≤ i ∧ i < ((loosR p).length : Int) := by simp; omega
 have f4 := U (n + 19) (by omega)
 have f5 : LV.int i64 (IntKind.wrap i64 (i + 1)) = LV.int i64 (i + 1) := by simp (disch := omega)
 have f6 := hr
 exact dlp (fun h => ai (congrArg LV.bool f1) <| ai (f3) <| ai (f2) <| ai (f4) <| ai (f5) <| ai (Eq.refl (tidyOf f6)) <| ai (f6) <| h) (.i (.s (.s (.a) (.b true (.a))) (.s (.k (.d [] [.a, .a, .a, .a, .a, .e (rOf f2), .a] [] [.f (rOf f4)])) (.r [.a, .v (vOf f5) (.a)]))) (.h [] (eOf f6) (stOf f6) (rOf f6))) (by kernel_rfl)
theorem sy_end (n fu : Nat) (rm : Int) (m : ML) (p : PL) (hp : p.length ≤ 1000) (hm : m.length ≤ 100000) (c : ML) (i : Int) (hi : (p.length : Int) ≤ i) :
  loopAt prog C0 (n + 60) 30 0 0 (fu + 1) (syE i) (syS rm m p c) = some (.exit 0, syX p i, syS rm m p c) := by
 have f1 : decide (i < ((loosR p).length : Int)) = false := by simp; omega
 exact dlp (fun h => ai (congrArg LV.bool f1) <| h) (.i (.s (.s (.a) (.b false (.a))) .a) (.a)) (by kernel_rfl)
theorem sy_thru (n : Nat) (rm : Int) (m : ML) (p : PL) (hp : p.length ≤ 1000) (hm : m.length ≤ 100000) (c : ML) (L : loopAt prog C0 (n + 60) 30 0 0 (n + 60) (syE 0) (syS rm m p m) = some (.exit 0, syX p p.length, syS rm m p c)) :
  lrun prog C0 (lcall prog C0 (n + 60)) (n + 60) 30 [rR rm m p] ⟨0, []⟩ = some (.agg [.int .i64 rm, .isl 2 (cellsR c), .isl 3 []], ⟨0, []⟩) := by
 have f1 := L
 exact drn (fun h => ai (Eq.refl (tidyOf f1)) <| ai (f1) <| h) (.s (.a) (.s (.a) (.s (.s (.a) (.k (.l (.h [] (eOf f1) (stOf f1) (rOf f1))))) (.a)))) [] .a (by kernel_rfl)
end Go.Mac
namespace Go.Mac
open Go Go.Eng Go.Proofs Go.Mac.Nd
open Go.IntKind (i64)
open Go.Proofs.Tryd (prog)
set_option maxHeartbeats 0
set_option maxRecDepth 100000
abbrev xkS (rm : Int) (m : ML) (p : PL) : St := ⟨2, [(0, LObj.box 35 [.int i64 rm, .isl 2 (cellsR m), .isl 3 (loosR p)]), (1, LObj.box 35 [.int i64 0, .nils, .nils])]⟩
abbrev xkE (ks : List Int) (cut last i : Int) : LEnv := [.any, .isl 1 (ints ks), .int i64 cut, .ptr 0 0, .any, .any, .ptr 1 0, .int i64 last, .int i64 i, .any, .any, .any, .any, .any, .any, .any, .any, .any, .any, .any, .any, .any, .any, .any, .any, .any, .any, .any, .any, .any, .any, .any, .any, .any, .any, .any, .any, .any, .any, .any, .any, .any, .any, .any, .any, .any, .any, .any, .any, .any, .any, .any, .any, .any, .any, .any, .any, .any, .any, .any, .any, .any, .any, .any, .any, .any, .any, .any, .any, .any, .any, .any, .any, .any, .any, .any, .any, .any, .any, .any, .any, .any, .any, .any, .any, .any, .any, .any, .any, .any, .any, .any, .any, .any, .any, .any, .any]
abbrev xkX (p : PL) (ks : List Int) (cut last i : Int) : LEnv := [.any, .isl 1 (ints ks), .int i64 cut, .ptr 0 0, .any, .any, .ptr 1 0, .int i64 last, .int i64 i, .any, .any, .any, .any, .any, .any, .any, .int i64 i, .ptr 0 2, .isl 3 (loosR p), .int i64 ((loosR p).length : Int), .bool (decide (i < ((loosR p).length : Int))), .any, .any, .any, .any, .any, .any, .any, .any, .any, .any, .any, .any, .any, .any, .any, .any, .any, .any, .any, .any, .any, .any, .any, .any, .any, .any, .any, .any, .any, .any, .any, .any, .any, .any, .any, .any, .any, .any, .any, .any, .any, .any, .any, .any, .any, .any, .any, .any, .any, .any, .any, .any, .any, .any, .any, .any, .any, .any, .any, .any, .any, .any, .any, .any, .any, .any, .any, .any, .any, .any, .any, .any, .any, .any, .any, .any]
theorem xk_hit (n fu : Nat) (rm : Int) (m : ML) (p : PL) (hp : p.length ≤ 1000) (hm : m.length ≤ 100000) (ks : List Int) (cut last : Int) (k : Nat) (hi : k < p.length) (hk : k < ks.length) (h : ¬ atI ks k = 0) (r : LX × LEnv × St)
  (hr : loopAt prog Ck (n + 60) 31 0 0 fu (xkE ks cut k ((k : Int) + 1)) (xkS rm m p) = some r) : loopAt prog Ck (n + 60) 31 0 0 (fu + 1) (xkE ks cut last k) (xkS rm m p) = some r := by
 have f1 : decide ((↑k : Int) < ((loosR p).length : Int)) = true := by simp; omega
 have f2 := kept_1 (n + 49) ks k hk h
 have f3 : LV.int i64 (IntKind.wrap i64 ((↑k : Int) + 1)) = LV.int i64 ((↑k : Int) + 1) := by simp (disch := omega)
 have f4 := hr
 exact dlp (fun h => ai (congrArg LV.bool f1) <| ai (f2) <| ai (f3) <| ai (Eq.refl (tidyOf f4)) <| ai (f4) <| h) (.i (.s (.s (.a) (.b true (.a))) (.s (.k (.s (.r [.a, .a, .f (rOf f2)]) (.a))) (.r [.a, .v (vOf f3) (.a)]))) (.h [] (eOf f4) (stOf f4) (rOf f4))) (by kernel_rfl)
theorem xk_miss (n fu : Nat) (rm : Int) (m : ML) (p : PL) (hp : p.length ≤ 1000) (hm : m.length ≤ 100000) (ks : List Int) (cut last : Int) (k : Nat) (hi : k < p.length) (hk : k < ks.length) (h : atI ks k = 0) (r : LX × LEnv × St)
  (hr : loopAt prog Ck (n + 60) 31 0 0 fu (xkE ks cut last ((k : Int) + 1)) (xkS rm m p) = some r) : loopAt prog Ck (n + 60) 31 0 0 (fu + 1) (xkE ks cut last k) (xkS rm m p) = some r := by
 have f1 : decide ((↑k : Int) < ((loosR p).length : Int)) = true := by simp; omega
 have f2 := kept_0 (n + 49) ks k hk h
 have f3 : LV.int i64 (IntKind.wrap i64 ((↑k : Int) + 1)) = LV.int i64 ((↑k : Int) + 1) := by simp (disch := omega)
 have f4 := hr
 exact dlp (fun h => ai (congrArg LV.bool f1) <| ai (f2) <| ai (f3) <| ai (Eq.refl (tidyOf f4)) <| ai (f4) <| h) (.i (.s (.s (.a) (.b true (.a))) (.s (.k (.s (.r [.a, .a, .f (rOf f2)]) (.a))) (.r [.a, .v (vOf f3) (.a)]))) (.h [] (eOf f4) (stOf f4) (rOf f4))) (by kernel_rfl)
theorem xk_over (n fu : Nat) (rm : Int) (m : ML) (p : PL) (hp : p.length ≤ 1000) (hm : m.length ≤ 100000) (ks : List Int) (cut last : Int) (k : Nat) (hi : k < p.length) (hk : ks.length ≤ k) (r : LX × LEnv × St)
  (hr : loopAt prog Ck (n + 60) 31 0 0 fu (xkE ks cut last ((k : Int) + 1)) (xkS rm m p) = some r) : loopAt prog Ck (n + 60) 31 0 0 (fu + 1) (xkE ks cut last k) (xkS rm m p) = some r := by
 have f1 : decide ((↑k : Int) < ((loosR p).length : Int)) = true := by simp; omega
 have f2 := kept_o (n + 49) ks k hk
 have f3 : LV.int i64 (IntKind.wrap i64 ((↑k : Int) + 1)) = LV.int i64 ((↑k : Int) + 1) := by simp (disch := omega)
 have f4 := hr
 exact dlp (fun h => ai (congrArg LV.bool f1) <| ai (f2) <| ai (f3) <| ai (Eq.refl (tidyOf f4)) <| ai (f4) <| h) (.i (.s (.s (.a) (.b true (.a))) (.s (.k (.s (.r [.a, .a, .f (rOf f2)]) (.a))) (.r [.a, .v (vOf f3) (.a)]))) (.h [] (eOf f4) (stOf f4) (rOf f4))) (by kernel_rfl)
theorem xk_end (n fu : Nat) (rm : Int) (m : ML) (p : PL) (hp : p.length ≤ 1000) (hm : m.length ≤ 100000) (ks : List Int) (cut last i : Int) (hi : (p.length : Int) ≤ i) :
  loopAt prog Ck (n + 60) 31 0 0 (fu + 1) (xkE ks cut last i) (xkS rm m p) = some (.exit 0, xkX p ks cut last i, xkS rm m p) := by
 have f1 : decide (i < ((loosR p).length : Int)) = false := by simp; omega
 exact dlp (fun h => ai (congrArg LV.bool f1) <| h) (.i (.s (.s (.a) (.b false (.a))) .a) (.a)) (by kernel_rfl)
end Go.Mac
namespace Go.Mac
open Go Go.Eng Go.Proofs
open Go.IntKind (i64)
open Go.Proofs.Tryd (prog)
set_option maxHeartbeats 0
set_option maxRecDepth 100000
theorem padc_step (n fu : Nat) (b : List Int) (hb : b.length ≤ 64) (k : Nat) (hk : k < b.length) (r : LX × LEnv × St) (hr : loopAt prog Ck (n + 20) 49 0 0 fu (pdE b ((k : Int) + 1)) (pdS b (k + 1)) = some r) :
  loopAt prog Ck (n + 20) 49 0 0 (fu + 1) (pdE b k) (pdS b k) = some r := by
 have e := padP_set b k hk (by omega)
 have e2 := padP_length b k (by omega) (by omega)
 have f1 : decide ((↑k : Int) < ((bys b).length : Int)) = true := by simp; omega
 have f2 : LV.bool (if decide ((↑k : Int) < ((bys b).length : Int)) = true then decide ((↑k : Int) < 64) else false) = LV.bool true := by simp; omega
 have f3 : (bys b)[Int.toNat (↑k : Int)]? = some (LV.int IntKind.u8 (atI b k)) := by simp (disch := omega)
 have f4 : 0 ≤ (↑k : Int) ∧ (↑k : Int) < ((bys b).length : Int) := by simp; omega
 have f5 : 0 ≤ (↑k : Int) ∧ (↑k : Int) < 64 := by omega
 have f6 : LV.pel 1 0 (0 + Int.toNat (↑k : Int)) 0 = LV.pel 1 0 k 0 := by simp
 have f7 : (bys (padP b k))[k]? = some (LV.int IntKind.u8 (atI (padP b k) k)) := by simp (disch := omega)
 have f8 : LObj.row 5 1 (List.set (bys (padP b k)) k (LV.int IntKind.u8 (atI b k))) = LObj.row 5 1 (bys (padP b (k + 1))) := by simp (disch := omega) [-List.reduceReplicate, hb, hk, hr, e, e2]
 have f9 : LV.int i64 (IntKind.wrap i64 ((↑k : Int) + 1)) = LV.int i64 ((↑k : Int) + 1) := by simp (disch := omega)
 have f10 := hr
 exact dlp (fun h => ai (congrArg some f1) <| ai (congrArg some f1) <| ai (f2) <| ai (f4) <| ai (f3) <| ai (f5) <| ai (f6) <| ai (f7) <| ai (congrArg some f8) <| ai (f9) <| ai (Eq.refl (tidyOf f10)) <| ai (f10) <| h) (.i (.s (.s (.r [.a, .a, .a, .a, .a, .g true (.a), .g true (.a), .v (vOf f2) (.a)]) (.a)) (.s (.k (.r [.a, .a, .a, .a, .e (rOf f3), .a, .v (vOf f6) (.q), .x 0 (vOf f8) (.e (rOf f7))])) (.r [.a, .v (vOf f9) (.a)]))) (.h [] (eOf f10) (stOf f10) (rOf f10))) (by kernel_rfl)
theorem padc_end (n fu : Nat) (b : List Int) (hb : b.length ≤ 64) :
  loopAt prog Ck (n + 20) 49 0 0 (fu + 1) (pdE b b.length) (pdS b b.length) = some (.exit 0, pdX b b.length, pdS b b.length) := by
 have f1 : decide ((b.length : Int) < ((bys b).length : Int)) = false := by simp
 have f2 : lpick (decide ((b.length : Int) < ((bys b).length : Int))) LV.any (LV.bool false) = some (LV.bool false) := by simp
 exact dlp (fun h => ai (congrArg some f1) <| ai (congrArg some f1) <| ai (x_map (st := (St.mk 1 [(0, LObj.row 5 1 (bys (padP b (List.length b))))])) f2) <| h) (.i (.s (.s (.r [.a, .a, .a, .a, .a, .g false (.a), .g false (.a), .t (rOf (x_map (st := (St.mk 1 [(0, LObj.row 5 1 (bys (padP b (List.length b))))])) f2))]) (.a)) .a) (.a)) (by kernel_rfl)
theorem padc_loop (n : Nat) (b : List Int) (hb : b.length ≤ 64) : ∀ (j k fu : Nat), k + j = b.length → j < fu → loopAt prog Ck (n + 20) 49 0 0 fu (pdE b k) (pdS b k) = some (.exit 0, pdX b b.length, pdS b b.length)
 | 0, k, fu, hk, hf => by
  obtain ⟨fu, rfl⟩ : ∃ q, fu = q + 1 := ⟨fu - 1, by omega⟩
  obtain rfl : k = b.length := by omega
  exact padc_end n fu b hb
 | j + 1, k, fu, hk, hf => by
  obtain ⟨fu, rfl⟩ : ∃ q, fu = q + 1 := ⟨fu - 1, by omega⟩
  exact padc_step n fu b hb k (by omega) _ (padc_loop n b hb j (k + 1) fu (by omega) (by omega))
theorem padc_ok (n : Nat) (b : List Int) (hb : b.length ≤ 64) (hn : 64 < n + 20) : lrun prog Ck (lcall prog Ck (n + 20)) (n + 20) 49 [.isl 1 (bys b)] ⟨0, []⟩ = some (.sl 1 0 0 64 none, ⟨1, [(0, .row 5 1 (bys (blk b)))]⟩) := by
 have L := padc_loop n b hb b.length 0 (n + 20) (by omega) (by omega)
 have e := padP_full b hb
 have e2 := padP_zero b
 unfold pdS at L
 rw [e, e2] at L
 have f1 : LObj.row 5 1 (List.replicate 64 (LV.int IntKind.u8 0)) = LObj.row 5 1 (bys (List.replicate 64 0)) := by simp
 have f2 := L
 exact drn (fun h => ai (congrArg some f1) <| ai (Eq.refl (tidyOf f2)) <| ai (f2) <| h) (.s (.a) (.s (.a) (.s (.s (.a) (.k (.l (.h [.x 0 (vOf f1)] (eOf f2) (stOf f2) (rOf f2))))) (.a)))) [] .a (by kernel_rfl)
end Go.Mac
