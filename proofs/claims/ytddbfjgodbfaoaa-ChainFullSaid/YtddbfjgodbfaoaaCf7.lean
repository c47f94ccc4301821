import Derived.Test.YtddbfjgodbfaoaaCf3
import Derived.Test.YtddbfjgodbfaoaaCf5
import Derived.Test.YtddbfjgodbfaoaaCf6
import Derived.Test.YtddbfjgodbfaoaaProg
import Derived.KernelRfl
set_option linter.unusedVariables false
set_option linter.unusedSimpArgs false
namespace Go.Mac
open Go Go.Eng Go.Proofs
set_option maxHeartbeats 0
set_option maxRecDepth 100000
theorem right_ok (n : Nat) (at_ : Int) (h : 0 ≤ at_) (h2 : at_ ≤ 1073741824) : lrun Try.prog C0 (lcall Try.prog C0 (n + 9)) (n + 9) 44 [.int .i64 at_] ⟨0, []⟩ = some (.nili, ⟨0, []⟩) := by
  have f1 : decide (at_ < 0) = false := by (simp [-List.reduceReplicate]; omega)
  have f2 : LV.bool (if decide (at_ < 0) = true then true else decide (1073741824 < at_)) = LV.bool false := by (simp [-List.reduceReplicate]; omega)
  exact drun_ok (fun h => And.intro (congrArg some f1) <| And.intro (congrArg some f1) <| And.intro (f2) <| h) (.s (.a) (.s (.s (.r [.a, .a, .a, .g false (.a), .g false (.a), .v (vOf f2) (.a)]) (.a)) (.a))) [] .a (by kernel_rfl)
theorem right_no (n : Nat) (at_ : Int) (h : at_ < 0 ∨ 1073741824 < at_) : lrun Try.prog C0 (lcall Try.prog C0 (n + 9)) (n + 9) 44 [.int .i64 at_] ⟨0, []⟩ = some (.ifc 115 (.agg [.str [98,108,111,99,107], .int .i64 at_, .ifc 71 (.int .i64 2)]), ⟨0, []⟩) := by
  by_cases h1 : at_ < 0
  · have f1 : decide (at_ < 0) = true := by (simp [-List.reduceReplicate]; omega)
    have f2 : lpick (decide (at_ < 0)) (LV.bool true) LV.any = some (LV.bool true) := by (simp [-List.reduceReplicate]; omega)
    exact drun_ok (fun h => And.intro (congrArg some f1) <| And.intro (congrArg some f1) <| And.intro (x_map (st := (St.mk 0 [])) f2) <| h) (.s (.a) (.s (.s (.r [.a, .a, .a, .g true (.a), .g true (.a), .t (rOf (x_map (st := (St.mk 0 [])) f2))]) (.a)) .a)) [] .a (by kernel_rfl)
  · have : 1073741824 < at_ := by omega
    have f1 : decide (at_ < 0) = false := by (simp [-List.reduceReplicate]; omega)
    have f2 : LV.bool (if decide (at_ < 0) = true then true else decide (1073741824 < at_)) = LV.bool true := by (simp [-List.reduceReplicate]; omega)
    exact drun_ok (fun h => And.intro (congrArg some f1) <| And.intro (congrArg some f1) <| And.intro (f2) <| h) (.s (.a) (.s (.s (.r [.a, .a, .a, .g false (.a), .g false (.a), .v (vOf f2) (.a)]) (.a)) .a)) [] .a (by kernel_rfl)
theorem whole_ok (n : Nat) (b : List Int) : lrun Try.prog C0 (lcall Try.prog C0 (n + 9)) (n + 9) 40 [.isl 1 (bys b)] ⟨0, []⟩ = some (.sl 1 0 0 64 none, ⟨1, [(0, .row 5 1 (bys (blk b)))]⟩) := by
  have f1 : okElems true 1 (sealL (bys b)) = true := by simp
  have f2 : 64 ≤ 64 := by omega
  have f3 : LV.int IntKind.i64 (↑(min (List.length (sealL (bys b))) 64) : Int) = LV.int IntKind.i64 (↑(min (List.length b) 64) : Int) := by simp
  have f4 : LObj.row 5 1 (lsplice (List.replicate 64 (LV.int IntKind.u8 0)) 0 (List.take (min (List.length (sealL (bys b))) 64) (sealL (bys b)))) = LObj.row 5 1 (bys (spliceI (List.replicate 64 0) 0 (List.take (min (List.length b) 64) b))) := by simp
  exact drun_ok (fun h => And.intro (f1) <| And.intro (f2) <| And.intro (f3) <| And.intro (congrArg some f4) <| h) (.s (.a) (.s (.a) (.s (.r [.a, .a, .x 0 (vOf f4) (.v (vOf f3) (.q))]) (.a)))) [] .a (by kernel_rfl)
theorem bput_some (n : Nat) (at_ : Int) (b : List Int) (w : List (Int × LV)) (hb : b ≠ []) : lrun Try.prog C0 (lcall Try.prog C0 (n + 10)) (n + 10) 41 [.map 0, .agg [.int .i64 at_, .isl 1 (bys b)]] ⟨1, [(0, .map .i64 w)]⟩ = some (.tup [], ⟨1, [(0, .map .i64 (kput w at_ (.isl 1 (bys b))))]⟩) := by
  have f1 : List.isEmpty (bys b) = false := by (simp [-List.reduceReplicate]; omega)
  exact drun_ok (fun h => And.intro (f1) <| h) (.s (.a) (.s (.s (.r [.a, .a, .q]) (.a)) (.a))) [] .a (by kernel_rfl)
theorem bput_none (n : Nat) (at_ : Int) (w : List (Int × LV)) : lrun Try.prog C0 (lcall Try.prog C0 (n + 10)) (n + 10) 41 [.map 0, .agg [.int .i64 at_, .nils]] ⟨1, [(0, .map .i64 w)]⟩ = some (.tup [], ⟨1, [(0, .map .i64 (kdel w at_))]⟩) := by
  exact drun_ok (fun h => h) (.a) [] .a (by kernel_rfl)
def needs (m : List (Int × List Int)) (p : List (Int × Option (List Int))) : List (Int × LV) := pendN (pnds p) (List.foldl kinc [] (mapK m))
def okP (p : List (Int × Option (List Int))) : Prop := ∀ x ∈ p, ∀ b, x.2 = some b → b ≠ []
theorem u8_bys (b : List Int) : (bys b).all isU8 = true := by
  rw [List.all_eq_true]
  intro x hx
  obtain ⟨n, _, rfl⟩ := List.mem_map.1 hx
  rfl
theorem okW_pnds : ∀ {p : List (Int × Option (List Int))}, okP p → (pnds p).all okW = true
  | [], _ => rfl
  | (a, none) :: p, h => by
    have := okW_pnds (p := p) (fun x hx => h x (List.mem_cons_of_mem _ hx))
    show (okW (.agg [.int .i64 a, .nils]) && (pnds p).all okW) = true
    rw [this]; rfl
  | (a, some []) :: p, h => absurd rfl (h _ List.mem_cons_self [] rfl)
  | (a, some (x :: b)) :: p, h => by
    have := okW_pnds (p := p) (fun x hx => h x (List.mem_cons_of_mem _ hx))
    show (okW (.agg [.int .i64 a, .isl 1 (bys (x :: b))]) && (pnds p).all okW) = true
    rw [this, Bool.and_true]
    exact u8_bys (x :: b)
theorem okBs_mapV (m : List (Int × List Int)) : (mapV m).all okBs = true := by
  rw [List.all_eq_true]
  intro x hx
  obtain ⟨y, _, rfl⟩ := List.mem_map.1 hx
  exact u8_bys y.2
theorem needs_ok (n : Nat) (rm : Int) (m : List (Int × List Int)) (p : List (Int × Option (List Int))) (hp : p.length ≤ 1000000) (ho : okP p) :
    lrun Try.prog C0 (lcall Try.prog C0 n) n 45 [.ptr 0 0] ⟨1, [(0, dO rm m p)]⟩ = some (.map 1, ⟨2, [(0, dO rm m p), (1, .map .i64 (needs m p))]⟩) := by
  have X : xNeeds [.ptr 0 0] ⟨1, [(0, dO rm m p)]⟩ = some (.map 1, ⟨2, [(1, .map .i64 (needs m p)), (0, dO rm m p)]⟩) := by
    have h1 := okW_pnds ho
    have h2 : (pnds p).length ≤ 1048576 := by simp; omega
    simp only [xNeeds, St.look, olook, if_true, h1, h2, and_self, zip_mapKV, mapE_fst, needs, St.add]
  exact x_runx rfl X (by kernel_rfl)
theorem write_new (n : Nat) (at_ : Int) (b : List Int) (rm : Int) (m : List (Int × List Int)) (p : List (Int × Option (List Int))) (h0 : 0 ≤ at_) (h1 : at_ ≤ 1073741824) (hb : b.length ≤ 64) (hp : p.length ≤ 1000000) (ho : okP p)
    (hk : kget (needs m p) at_ = none) (hr : (needs m p).length < rm) :
    lrun Try.prog C0 (lcall Try.prog C0 (n + 20)) (n + 20) 20 [.ptr 0 0, .int .i64 at_, .isl 1 (bys b)] ⟨1, [(0, dO rm m p)]⟩ = some (.nili, ⟨1, [(0, dO rm m (p ++ [(at_, some (spliceI (List.replicate 64 0) 0 b))]))]⟩) := by
  have f1 := right_ok (n + 10) at_ h0 h1
  have f2 : decide (64 < (↑(List.length (bys b)) : Int)) = false := by (simp [-List.reduceReplicate]; omega)
  have f3 := needs_ok (n + 19) rm m p hp ho
  have f4 : LV.int IntKind.i64 (↑(List.length (bys b)) : Int) = LV.int IntKind.i64 (↑(List.length b) : Int) := by simp
  have f5 : LV.bool (decide (64 < (↑(List.length (bys b)) : Int))) = LV.bool false := by (simp [-List.reduceReplicate]; omega)
  have f6 : LObj.map IntKind.i64 (List.zip (mapK m) (mapV m)) = LObj.map IntKind.i64 (mapE m) := by simp
  have f7 : LObj.box 77 [LV.int IntKind.i64 rm, LV.map 2, LV.sl 2 3 0 (List.length (pnds p)) none] = LObj.box 77 [LV.int IntKind.i64 rm, LV.map 2, LV.sl 2 3 0 (List.length p) none] := by simp
  have f8 : kget (needs m p) at_ = none := hk
  have f9 : LV.bool (if true = true then decide (rm ≤ (↑(List.length (needs m p)) : Int)) else false) = LV.bool false := by (simp [-List.reduceReplicate]; omega)
  have f10 : okElems true 1 (sealL (bys b)) = true := by simp
  have f11 : 64 ≤ 64 := by omega
  have f12 : LV.int IntKind.i64 (↑(min (List.length (sealL (bys b))) 64) : Int) = LV.int IntKind.i64 (↑(List.length b) : Int) := by simp (disch := omega) [-List.reduceReplicate]
  have f13 : LObj.row 5 1 (lsplice (List.replicate 64 (LV.int IntKind.u8 0)) 0 (List.take (min (List.length (sealL (bys b))) 64) (sealL (bys b)))) = LObj.row 5 1 (bys (spliceI (List.replicate 64 0) 0 b)) := by simp (disch := omega) [-List.reduceReplicate]
  have f14 : (if 4 = 4 then if 1 = 1 ∧ 0 + 64 ≤ List.length (bys (spliceI (List.replicate 64 0) 0 b)) ∧ capLe 64 none = true then LV.isl 1 (List.take 64 (List.drop 0 (bys (spliceI (List.replicate 64 0) 0 b)))) else LV.any else LV.sl 1 4 0 64 none) = LV.isl 1 (bys (spliceI (List.replicate 64 0) 0 b)) := by simp (disch := first | omega | (simp; omega)) [-List.reduceReplicate]
  have f15 : LV.bool (decide (rm ≤ (↑(List.length (needs m p)) : Int))) = LV.bool false := by (simp [-List.reduceReplicate]; omega)
  have f16 : LV.agg [LV.int IntKind.i64 at_, if 4 = 4 then if 1 = 1 ∧ 0 + 64 ≤ List.length (bys (spliceI (List.replicate 64 0) 0 b)) ∧ capLe 64 none = true then LV.isl 1 (List.take 64 (List.drop 0 (bys (spliceI (List.replicate 64 0) 0 b)))) else LV.any else LV.sl 1 4 0 64 none] = LV.agg [LV.int IntKind.i64 at_, LV.isl 1 (bys (spliceI (List.replicate 64 0) 0 b))] := by simp (disch := first | omega | (simp; omega)) [-List.reduceReplicate]
  have f17 : 1 ≤ 1 := by omega
  have f18 : List.length (pnds p) = List.length p ∧ (List.length p + 1) * 32 ≤ 140737488355328 := by (simp [-List.reduceReplicate]; omega)
  have f19 : LObj.row 88 2 (pnds p ++ List.take 1 (List.drop 0 (List.set [LV.agg [LV.int IntKind.i64 0, LV.nils]] 0 (LV.agg [LV.int IntKind.i64 at_, LV.isl 1 (bys (spliceI (List.replicate 64 0) 0 b))])))) = LObj.row 88 2 (pnds (p ++ [(at_, some (spliceI (List.replicate 64 0) 0 b))])) := by simp
  have f20 : LObj.row 88 2 (List.set [LV.agg [LV.int IntKind.i64 0, LV.nils]] 0 (LV.agg [LV.int IntKind.i64 at_, LV.isl 1 (bys (spliceI (List.replicate 64 0) 0 b))])) = LObj.row 88 2 [LV.agg [LV.int IntKind.i64 at_, LV.isl 1 (bys (spliceI (List.replicate 64 0) 0 b))]] := by simp
  have f21 : List.length (pnds (p ++ [(at_, some (spliceI (List.replicate 64 0) 0 b))])) = List.length p + 1 := by simp
  have f22 : (LV.nili, St.mk 1 [(0, LObj.box 77 [LV.int IntKind.i64 rm, LV.omap IntKind.i64 (List.map (fun x => Prod.fst x) (mapE m)) (List.map (fun x => Prod.snd x) (mapE m)), LV.own 88 2 (pnds (p ++ [(at_, some (spliceI (List.replicate 64 0) 0 b))]))])]) = (LV.nili, St.mk 1 [(0, dO rm m (p ++ [(at_, some (spliceI (List.replicate 64 0) 0 b))]))]) := by simp
  exact drun_ok (fun h => And.intro (f1) <| And.intro (congrArg LV.bool f2) <| And.intro (f3) <| And.intro (f4) <| And.intro (f5) <| And.intro (congrArg some f6) <| And.intro (congrArg some f7) <| And.intro (f8) <| And.intro (f9) <| And.intro (f10) <| And.intro (f11) <| And.intro (f12) <| And.intro (congrArg some f13) <| And.intro (f14) <| And.intro (f4) <| And.intro (f5) <| And.intro (f15) <| And.intro (f14) <| And.intro (f14) <| And.intro (f14) <| And.intro (f16) <| And.intro (f17) <| And.intro (f18) <| And.intro (congrArg some f19) <| And.intro (congrArg some f20) <| And.intro (f21) <| f22) (.s (.a) (.s (.s (.r [.a, .f (rOf f1)]) (.a)) (.s (.s (.a) (.b false (.a))) (.s (.r [.a, .f (rOf f3)]) (.s (.s (.d [.y 16 (vOf f4), .y 17 (vOf f5), .x 2 (vOf f6), .x 0 (vOf f7)] [.a, .a, .o (vOf f8), .a, .a, .a, .a, .a, .a, .a, .a] [] [.a, .v (vOf f9) (.a)]) (.a)) (.s (.a) (.s (.r [.a, .a, .x 4 (vOf f13) (.v (vOf f12) (.q))]) (.s (.r [.a, .a, .a, .a, .a, .a, .a, .a, .z [.y 9 (vOf f14), .y 16 (vOf f4), .y 17 (vOf f5), .y 34 (vOf f15), .y 38 (vOf f14), .y 39 (vOf f14), .y 48 (vOf f14), .y 49 (vOf f16)] (.a), .x 5 (vOf f20) (.x 6 (vOf f19) (.q))]) (.a))))))))) [] .q (by kernel_rfl)
theorem write_old (n : Nat) (at_ : Int) (b : List Int) (rm : Int) (m : List (Int × List Int)) (p : List (Int × Option (List Int))) (h0 : 0 ≤ at_) (h1 : at_ ≤ 1073741824) (hb : b.length ≤ 64) (hp : p.length ≤ 1000000) (ho : okP p)
    (c : Int) (hk : kget (needs m p) at_ = some (.int .i64 c)) (hc : 0 < c) :
    lrun Try.prog C0 (lcall Try.prog C0 (n + 20)) (n + 20) 20 [.ptr 0 0, .int .i64 at_, .isl 1 (bys b)] ⟨1, [(0, dO rm m p)]⟩ = some (.nili, ⟨1, [(0, dO rm m (p ++ [(at_, some (spliceI (List.replicate 64 0) 0 b))]))]⟩) := by
  have f1 := right_ok (n + 10) at_ h0 h1
  have f2 : decide (64 < (↑(List.length (bys b)) : Int)) = false := by (simp [-List.reduceReplicate]; omega)
  have f3 := needs_ok (n + 19) rm m p hp ho
  have f4 : LV.int IntKind.i64 (↑(List.length (bys b)) : Int) = LV.int IntKind.i64 (↑(List.length b) : Int) := by simp
  have f5 : LV.bool (decide (64 < (↑(List.length (bys b)) : Int))) = LV.bool false := by (simp [-List.reduceReplicate]; omega)
  have f6 : LObj.map IntKind.i64 (List.zip (mapK m) (mapV m)) = LObj.map IntKind.i64 (mapE m) := by simp
  have f7 : LObj.box 77 [LV.int IntKind.i64 rm, LV.map 2, LV.sl 2 3 0 (List.length (pnds p)) none] = LObj.box 77 [LV.int IntKind.i64 rm, LV.map 2, LV.sl 2 3 0 (List.length p) none] := by simp
  have f8 : kget (needs m p) at_ = some (LV.int IntKind.i64 c) := hk
  have f9 : decide (c = 0) = false := by (simp [-List.reduceReplicate]; omega)
  have f10 : lpick (decide (c = 0)) LV.any (LV.bool false) = some (LV.bool false) := by (simp [-List.reduceReplicate]; omega)
  have f11 : okElems true 1 (sealL (bys b)) = true := by simp
  have f12 : 64 ≤ 64 := by omega
  have f13 : LV.int IntKind.i64 (↑(min (List.length (sealL (bys b))) 64) : Int) = LV.int IntKind.i64 (↑(List.length b) : Int) := by simp (disch := omega) [-List.reduceReplicate]
  have f14 : LObj.row 5 1 (lsplice (List.replicate 64 (LV.int IntKind.u8 0)) 0 (List.take (min (List.length (sealL (bys b))) 64) (sealL (bys b)))) = LObj.row 5 1 (bys (spliceI (List.replicate 64 0) 0 b)) := by simp (disch := omega) [-List.reduceReplicate]
  have f15 : (if 4 = 4 then if 1 = 1 ∧ 0 + 64 ≤ List.length (bys (spliceI (List.replicate 64 0) 0 b)) ∧ capLe 64 none = true then LV.isl 1 (List.take 64 (List.drop 0 (bys (spliceI (List.replicate 64 0) 0 b)))) else LV.any else LV.sl 1 4 0 64 none) = LV.isl 1 (bys (spliceI (List.replicate 64 0) 0 b)) := by simp (disch := first | omega | (simp; omega)) [-List.reduceReplicate]
  have f16 : LV.bool (decide (c = 0)) = LV.bool false := by (simp [-List.reduceReplicate]; omega)
  have f17 : LV.agg [LV.int IntKind.i64 at_, if 4 = 4 then if 1 = 1 ∧ 0 + 64 ≤ List.length (bys (spliceI (List.replicate 64 0) 0 b)) ∧ capLe 64 none = true then LV.isl 1 (List.take 64 (List.drop 0 (bys (spliceI (List.replicate 64 0) 0 b)))) else LV.any else LV.sl 1 4 0 64 none] = LV.agg [LV.int IntKind.i64 at_, LV.isl 1 (bys (spliceI (List.replicate 64 0) 0 b))] := by simp (disch := first | omega | (simp; omega)) [-List.reduceReplicate]
  have f18 : 1 ≤ 1 := by omega
  have f19 : List.length (pnds p) = List.length p ∧ (List.length p + 1) * 32 ≤ 140737488355328 := by (simp [-List.reduceReplicate]; omega)
  have f20 : LObj.row 88 2 (pnds p ++ List.take 1 (List.drop 0 (List.set [LV.agg [LV.int IntKind.i64 0, LV.nils]] 0 (LV.agg [LV.int IntKind.i64 at_, LV.isl 1 (bys (spliceI (List.replicate 64 0) 0 b))])))) = LObj.row 88 2 (pnds (p ++ [(at_, some (spliceI (List.replicate 64 0) 0 b))])) := by simp
  have f21 : LObj.row 88 2 (List.set [LV.agg [LV.int IntKind.i64 0, LV.nils]] 0 (LV.agg [LV.int IntKind.i64 at_, LV.isl 1 (bys (spliceI (List.replicate 64 0) 0 b))])) = LObj.row 88 2 [LV.agg [LV.int IntKind.i64 at_, LV.isl 1 (bys (spliceI (List.replicate 64 0) 0 b))]] := by simp
  have f22 : List.length (pnds (p ++ [(at_, some (spliceI (List.replicate 64 0) 0 b))])) = List.length p + 1 := by simp
  have f23 : (LV.nili, St.mk 1 [(0, LObj.box 77 [LV.int IntKind.i64 rm, LV.omap IntKind.i64 (List.map (fun x => Prod.fst x) (mapE m)) (List.map (fun x => Prod.snd x) (mapE m)), LV.own 88 2 (pnds (p ++ [(at_, some (spliceI (List.replicate 64 0) 0 b))]))])]) = (LV.nili, St.mk 1 [(0, dO rm m (p ++ [(at_, some (spliceI (List.replicate 64 0) 0 b))]))]) := by simp
  exact drun_ok (fun h => And.intro (f1) <| And.intro (congrArg LV.bool f2) <| And.intro (f3) <| And.intro (f4) <| And.intro (f5) <| And.intro (congrArg some f6) <| And.intro (congrArg some f7) <| And.intro (f8) <| And.intro (congrArg some f9) <| And.intro (congrArg some f9) <| And.intro (congrArg some f9) <| And.intro (congrArg some f9) <| And.intro (congrArg some f9) <| And.intro (congrArg some f9) <| And.intro (congrArg some f9) <| And.intro (x_map (st := (St.mk 4 [(3, LObj.row 88 2 (pnds p)), (2, LObj.map IntKind.i64 (mapE m)), (0, LObj.box 77 [LV.int IntKind.i64 rm, LV.map 2, LV.sl 2 3 0 (List.length p) none]), (1, LObj.map IntKind.i64 (needs m p))])) f10) <| And.intro (f11) <| And.intro (f12) <| And.intro (f13) <| And.intro (congrArg some f14) <| And.intro (f15) <| And.intro (f4) <| And.intro (f5) <| And.intro (f16) <| And.intro (f16) <| And.intro (f15) <| And.intro (f15) <| And.intro (f15) <| And.intro (f17) <| And.intro (f18) <| And.intro (f19) <| And.intro (congrArg some f20) <| And.intro (congrArg some f21) <| And.intro (f22) <| f23) (.s (.a) (.s (.s (.r [.a, .f (rOf f1)]) (.a)) (.s (.s (.a) (.b false (.a))) (.s (.r [.a, .f (rOf f3)]) (.s (.s (.d [.y 16 (vOf f4), .y 17 (vOf f5), .x 2 (vOf f6), .x 0 (vOf f7)] [.a, .a, .o (vOf f8), .a, .a, .g false (.a), .g false (.a), .g false (.a), .g false (.a), .g false (.a), .g false (.a)] [] [.g false (.a), .t (rOf (x_map (st := (St.mk 4 [(3, LObj.row 88 2 (pnds p)), (2, LObj.map IntKind.i64 (mapE m)), (0, LObj.box 77 [LV.int IntKind.i64 rm, LV.map 2, LV.sl 2 3 0 (List.length p) none]), (1, LObj.map IntKind.i64 (needs m p))])) f10))]) (.a)) (.s (.a) (.s (.r [.a, .a, .x 4 (vOf f14) (.v (vOf f13) (.q))]) (.s (.r [.a, .a, .a, .a, .a, .a, .a, .a, .z [.y 9 (vOf f15), .y 16 (vOf f4), .y 17 (vOf f5), .y 26 (vOf f16), .y 27 (vOf f16), .y 38 (vOf f15), .y 39 (vOf f15), .y 48 (vOf f15), .y 49 (vOf f17)] (.a), .x 5 (vOf f21) (.x 6 (vOf f20) (.q))]) (.a))))))))) [] .q (by kernel_rfl)
theorem writeS_new (n : Nat) (at_ : Int) (b : List Int) (rm : Int) (m : List (Int × List Int)) (p : List (Int × Option (List Int))) (h0 : 0 ≤ at_) (h1 : at_ ≤ 1073741824) (hb : b.length = 64) (hp : p.length ≤ 1000000) (ho : okP p)
    (hk : kget (needs m p) at_ = none) (hr : (needs m p).length < rm) :
    lrun Try.prog C0 (lcall Try.prog C0 (n + 20)) (n + 20) 20 [.ptr 0 0, .int .i64 at_, .sl 1 1 0 64 none] ⟨2, [(0, dO rm m p), (1, .row 5 1 (bys b))]⟩ = some (.nili, ⟨2, [(0, dO rm m (p ++ [(at_, some b)])), (1, .row 5 1 (bys b))]⟩) := by
  have f1 := right_ok (n + 10) at_ h0 h1
  have f2 := needs_ok (n + 19) rm m p hp ho
  have f3 : LObj.map IntKind.i64 (List.zip (mapK m) (mapV m)) = LObj.map IntKind.i64 (mapE m) := by simp
  have f4 : LObj.box 77 [LV.int IntKind.i64 rm, LV.map 3, LV.sl 2 4 0 (List.length (pnds p)) none] = LObj.box 77 [LV.int IntKind.i64 rm, LV.map 3, LV.sl 2 4 0 (List.length p) none] := by simp
  have f5 : kget (needs m p) at_ = none := hk
  have f6 : LV.bool (if true = true then decide (rm ≤ (↑(List.length (needs m p)) : Int)) else false) = LV.bool false := by (simp [-List.reduceReplicate]; omega)
  have f7 : 64 ≤ List.length (bys b) := by (simp [-List.reduceReplicate]; omega)
  have f8 : 64 ≤ 64 := by omega
  have f9 : LV.int IntKind.i64 (↑(min (List.length (List.take 64 (List.drop 0 (bys b)))) 64) : Int) = LV.int IntKind.i64 64 := by (simp [-List.reduceReplicate]; omega)
  have f10 : LObj.row 5 1 (lsplice (List.replicate 64 (LV.int IntKind.u8 0)) 0 (List.take (min (List.length (List.take 64 (List.drop 0 (bys b)))) 64) (List.take 64 (List.drop 0 (bys b))))) = LObj.row 5 1 (bys b) := by simp (disch := first | omega | (simp; omega)) [-List.reduceReplicate]
  have f11 : (if 5 = 5 then if 1 = 1 ∧ 0 + 64 ≤ List.length (bys b) ∧ capLe 64 none = true then LV.isl 1 (List.take 64 (List.drop 0 (bys b))) else LV.any else LV.sl 1 5 0 64 none) = LV.isl 1 (bys b) := by simp (disch := first | omega | (simp; omega)) [-List.reduceReplicate, if_pos, if_neg]
  have f12 : LV.bool (decide (rm ≤ (↑(List.length (needs m p)) : Int))) = LV.bool false := by (simp [-List.reduceReplicate]; omega)
  have f13 : LV.agg [LV.int IntKind.i64 at_, if 5 = 5 then if 1 = 1 ∧ 0 + 64 ≤ List.length (bys b) ∧ capLe 64 none = true then LV.isl 1 (List.take 64 (List.drop 0 (bys b))) else LV.any else LV.sl 1 5 0 64 none] = LV.agg [LV.int IntKind.i64 at_, LV.isl 1 (bys b)] := by simp (disch := first | omega | (simp; omega)) [-List.reduceReplicate, if_pos, if_neg]
  have f14 : 1 ≤ 1 := by omega
  have f15 : List.length (pnds p) = List.length p ∧ (List.length p + 1) * 32 ≤ 140737488355328 := by (simp [-List.reduceReplicate]; omega)
  have f16 : LObj.row 88 2 (pnds p ++ List.take 1 (List.drop 0 (List.set [LV.agg [LV.int IntKind.i64 0, LV.nils]] 0 (LV.agg [LV.int IntKind.i64 at_, LV.isl 1 (bys b)])))) = LObj.row 88 2 (pnds (p ++ [(at_, some b)])) := by simp
  have f17 : LObj.row 88 2 (List.set [LV.agg [LV.int IntKind.i64 0, LV.nils]] 0 (LV.agg [LV.int IntKind.i64 at_, LV.isl 1 (bys b)])) = LObj.row 88 2 [LV.agg [LV.int IntKind.i64 at_, LV.isl 1 (bys b)]] := by simp
  have f18 : List.length (pnds (p ++ [(at_, some b)])) = List.length p + 1 := by simp
  have f19 : (LV.nili, St.mk 2 [(0, LObj.box 77 [LV.int IntKind.i64 rm, LV.omap IntKind.i64 (List.map (fun x => Prod.fst x) (mapE m)) (List.map (fun x => Prod.snd x) (mapE m)), LV.own 88 2 (pnds (p ++ [(at_, some b)]))]), (1, LObj.row 5 1 (bys b))]) = (LV.nili, St.mk 2 [(0, dO rm m (p ++ [(at_, some b)])), (1, LObj.row 5 1 (bys b))]) := by simp
  exact drun_ok (fun h => And.intro (f1) <| And.intro (f2) <| And.intro (congrArg some f3) <| And.intro (congrArg some f4) <| And.intro (f5) <| And.intro (f6) <| And.intro (f7) <| And.intro (f8) <| And.intro (f9) <| And.intro (congrArg some f10) <| And.intro (f11) <| And.intro (f12) <| And.intro (f11) <| And.intro (f11) <| And.intro (f11) <| And.intro (f13) <| And.intro (f14) <| And.intro (f15) <| And.intro (congrArg some f16) <| And.intro (congrArg some f17) <| And.intro (f18) <| f19) (.s (.a) (.s (.s (.r [.a, .f (rOf f1)]) (.a)) (.s (.a) (.s (.r [.a, .f (rOf f2)]) (.s (.s (.d [.x 3 (vOf f3), .x 0 (vOf f4)] [.a, .a, .o (vOf f5), .a, .a, .a, .a, .a, .a, .a, .a] [] [.a, .v (vOf f6) (.a)]) (.a)) (.s (.a) (.s (.r [.a, .a, .x 5 (vOf f10) (.v (vOf f9) (.q))]) (.s (.r [.a, .a, .a, .a, .a, .a, .a, .a, .z [.y 9 (vOf f11), .y 34 (vOf f12), .y 38 (vOf f11), .y 39 (vOf f11), .y 48 (vOf f11), .y 49 (vOf f13)] (.a), .x 6 (vOf f17) (.x 7 (vOf f16) (.q))]) (.a))))))))) [] .q (by kernel_rfl)
theorem writeS_old (n : Nat) (at_ : Int) (b : List Int) (rm : Int) (m : List (Int × List Int)) (p : List (Int × Option (List Int))) (h0 : 0 ≤ at_) (h1 : at_ ≤ 1073741824) (hb : b.length = 64) (hp : p.length ≤ 1000000) (ho : okP p)
    (c : Int) (hk : kget (needs m p) at_ = some (.int .i64 c)) (hc : 0 < c) :
    lrun Try.prog C0 (lcall Try.prog C0 (n + 20)) (n + 20) 20 [.ptr 0 0, .int .i64 at_, .sl 1 1 0 64 none] ⟨2, [(0, dO rm m p), (1, .row 5 1 (bys b))]⟩ = some (.nili, ⟨2, [(0, dO rm m (p ++ [(at_, some b)])), (1, .row 5 1 (bys b))]⟩) := by
  have f1 := right_ok (n + 10) at_ h0 h1
  have f2 := needs_ok (n + 19) rm m p hp ho
  have f3 : LObj.map IntKind.i64 (List.zip (mapK m) (mapV m)) = LObj.map IntKind.i64 (mapE m) := by simp
  have f4 : LObj.box 77 [LV.int IntKind.i64 rm, LV.map 3, LV.sl 2 4 0 (List.length (pnds p)) none] = LObj.box 77 [LV.int IntKind.i64 rm, LV.map 3, LV.sl 2 4 0 (List.length p) none] := by simp
  have f5 : kget (needs m p) at_ = some (LV.int IntKind.i64 c) := hk
  have f6 : decide (c = 0) = false := by (simp [-List.reduceReplicate]; omega)
  have f7 : lpick (decide (c = 0)) LV.any (LV.bool false) = some (LV.bool false) := by (simp [-List.reduceReplicate]; omega)
  have f8 : 64 ≤ List.length (bys b) := by (simp [-List.reduceReplicate]; omega)
  have f9 : 64 ≤ 64 := by omega
  have f10 : LV.int IntKind.i64 (↑(min (List.length (List.take 64 (List.drop 0 (bys b)))) 64) : Int) = LV.int IntKind.i64 64 := by (simp [-List.reduceReplicate]; omega)
  have f11 : LObj.row 5 1 (lsplice (List.replicate 64 (LV.int IntKind.u8 0)) 0 (List.take (min (List.length (List.take 64 (List.drop 0 (bys b)))) 64) (List.take 64 (List.drop 0 (bys b))))) = LObj.row 5 1 (bys b) := by simp (disch := first | omega | (simp; omega)) [-List.reduceReplicate]
  have f12 : (if 5 = 5 then if 1 = 1 ∧ 0 + 64 ≤ List.length (bys b) ∧ capLe 64 none = true then LV.isl 1 (List.take 64 (List.drop 0 (bys b))) else LV.any else LV.sl 1 5 0 64 none) = LV.isl 1 (bys b) := by simp (disch := first | omega | (simp; omega)) [-List.reduceReplicate, if_pos, if_neg]
  have f13 : LV.bool (decide (c = 0)) = LV.bool false := by (simp [-List.reduceReplicate]; omega)
  have f14 : LV.agg [LV.int IntKind.i64 at_, if 5 = 5 then if 1 = 1 ∧ 0 + 64 ≤ List.length (bys b) ∧ capLe 64 none = true then LV.isl 1 (List.take 64 (List.drop 0 (bys b))) else LV.any else LV.sl 1 5 0 64 none] = LV.agg [LV.int IntKind.i64 at_, LV.isl 1 (bys b)] := by simp (disch := first | omega | (simp; omega)) [-List.reduceReplicate, if_pos, if_neg]
  have f15 : 1 ≤ 1 := by omega
  have f16 : List.length (pnds p) = List.length p ∧ (List.length p + 1) * 32 ≤ 140737488355328 := by (simp [-List.reduceReplicate]; omega)
  have f17 : LObj.row 88 2 (pnds p ++ List.take 1 (List.drop 0 (List.set [LV.agg [LV.int IntKind.i64 0, LV.nils]] 0 (LV.agg [LV.int IntKind.i64 at_, LV.isl 1 (bys b)])))) = LObj.row 88 2 (pnds (p ++ [(at_, some b)])) := by simp
  have f18 : LObj.row 88 2 (List.set [LV.agg [LV.int IntKind.i64 0, LV.nils]] 0 (LV.agg [LV.int IntKind.i64 at_, LV.isl 1 (bys b)])) = LObj.row 88 2 [LV.agg [LV.int IntKind.i64 at_, LV.isl 1 (bys b)]] := by simp
  have f19 : List.length (pnds (p ++ [(at_, some b)])) = List.length p + 1 := by simp
  have f20 : (LV.nili, St.mk 2 [(0, LObj.box 77 [LV.int IntKind.i64 rm, LV.omap IntKind.i64 (List.map (fun x => Prod.fst x) (mapE m)) (List.map (fun x => Prod.snd x) (mapE m)), LV.own 88 2 (pnds (p ++ [(at_, some b)]))]), (1, LObj.row 5 1 (bys b))]) = (LV.nili, St.mk 2 [(0, dO rm m (p ++ [(at_, some b)])), (1, LObj.row 5 1 (bys b))]) := by simp
  exact drun_ok (fun h => And.intro (f1) <| And.intro (f2) <| And.intro (congrArg some f3) <| And.intro (congrArg some f4) <| And.intro (f5) <| And.intro (congrArg some f6) <| And.intro (congrArg some f6) <| And.intro (congrArg some f6) <| And.intro (congrArg some f6) <| And.intro (congrArg some f6) <| And.intro (congrArg some f6) <| And.intro (congrArg some f6) <| And.intro (x_map (st := (St.mk 5 [(4, LObj.row 88 2 (pnds p)), (3, LObj.map IntKind.i64 (mapE m)), (0, LObj.box 77 [LV.int IntKind.i64 rm, LV.map 3, LV.sl 2 4 0 (List.length p) none]), (2, LObj.map IntKind.i64 (needs m p)), (1, LObj.row 5 1 (bys b))])) f7) <| And.intro (f8) <| And.intro (f9) <| And.intro (f10) <| And.intro (congrArg some f11) <| And.intro (f12) <| And.intro (f13) <| And.intro (f13) <| And.intro (f12) <| And.intro (f12) <| And.intro (f12) <| And.intro (f14) <| And.intro (f15) <| And.intro (f16) <| And.intro (congrArg some f17) <| And.intro (congrArg some f18) <| And.intro (f19) <| f20) (.s (.a) (.s (.s (.r [.a, .f (rOf f1)]) (.a)) (.s (.a) (.s (.r [.a, .f (rOf f2)]) (.s (.s (.d [.x 3 (vOf f3), .x 0 (vOf f4)] [.a, .a, .o (vOf f5), .a, .a, .g false (.a), .g false (.a), .g false (.a), .g false (.a), .g false (.a), .g false (.a)] [] [.g false (.a), .t (rOf (x_map (st := (St.mk 5 [(4, LObj.row 88 2 (pnds p)), (3, LObj.map IntKind.i64 (mapE m)), (0, LObj.box 77 [LV.int IntKind.i64 rm, LV.map 3, LV.sl 2 4 0 (List.length p) none]), (2, LObj.map IntKind.i64 (needs m p)), (1, LObj.row 5 1 (bys b))])) f7))]) (.a)) (.s (.a) (.s (.r [.a, .a, .x 5 (vOf f11) (.v (vOf f10) (.q))]) (.s (.r [.a, .a, .a, .a, .a, .a, .a, .a, .z [.y 9 (vOf f12), .y 26 (vOf f13), .y 27 (vOf f13), .y 38 (vOf f12), .y 39 (vOf f12), .y 48 (vOf f12), .y 49 (vOf f14)] (.a), .x 6 (vOf f18) (.x 7 (vOf f17) (.q))]) (.a))))))))) [] .q (by kernel_rfl)
theorem loose_ok (n : Nat) (rm : Int) (m : List (Int × List Int)) (p : List (Int × Option (List Int))) : lrun Try.prog C0 (lcall Try.prog C0 (n + 10)) (n + 10) 42 [.ptr 0 0] ⟨1, [(0, dO rm m p)]⟩ = some (.int .i64 p.length, ⟨1, [(0, dO rm m p)]⟩) := by
  have f1 : List.length (pnds p) = List.length (pnds p) := by omega
  have f2 : (LV.int IntKind.i64 (↑(List.length (pnds p)) : Int), St.mk 1 [(0, LObj.box 77 [LV.int IntKind.i64 rm, LV.omap IntKind.i64 (mapK m) (mapV m), LV.own 88 2 (pnds p)])]) = (LV.int IntKind.i64 (↑(List.length p) : Int), St.mk 1 [(0, dO rm m p)]) := by simp
  exact drun_ok (fun h => And.intro (f1) <| f2) (.a) [] .q (by kernel_rfl)
theorem new_ok (n : Nat) (r : Int) (h0 : 0 ≤ r) (h1 : r ≤ 1073741824) : lrun Try.prog C0 (lcall Try.prog C0 (n + 10)) (n + 10) 11 [.int .i64 r] ⟨0, []⟩ = some (.tup [.ptr 0 0, .nili], ⟨1, [(0, dO r [] [])]⟩) := by
  have f1 : decide (r < 0) = false := by (simp [-List.reduceReplicate]; omega)
  have f2 : LV.bool (if decide (r < 0) = true then true else decide (1073741824 < r)) = LV.bool false := by (simp [-List.reduceReplicate]; omega)
  exact drun_ok (fun h => And.intro (congrArg some f1) <| And.intro (congrArg some f1) <| And.intro (f2) <| h) (.s (.a) (.s (.s (.r [.a, .a, .a, .g false (.a), .g false (.a), .v (vOf f2) (.a)]) (.a)) (.a))) [] .a (by kernel_rfl)
end Go.Mac

namespace Go.Mac
open Go Go.Eng Go.Proofs
set_option linter.unusedVariables false
set_option maxHeartbeats 0
set_option maxRecDepth 100000
def stepN (n c : Int) : Int := bits BinOp.or IntKind.u64 (IntKind.u64.wrap (n * 256)) (IntKind.u64.wrap c)
def num8 (b : List Int) : Int := stepN (stepN (stepN (stepN (stepN (stepN (stepN (bits BinOp.or IntKind.u64 0 (IntKind.u64.wrap (atI b 0))) (atI b 1)) (atI b 2)) (atI b 3)) (atI b 4)) (atI b 5)) (atI b 6)) (atI b 7)
theorem number_ok (n : Nat) (b : List Int) (hb : 8 ≤ b.length) (h : num8 b ≤ 1152921504606846976) : lrun Try.prog C0 (lcall Try.prog C0 (n + 20)) (n + 20) 60 [.isl 1 (bys b)] ⟨0, []⟩ = some (.int .i64 (IntKind.i64.wrap (num8 b)), ⟨0, []⟩) := by
  have h' := h
  simp only [num8, stepN] at h'
  simp only [num8, stepN]
  have f1 : (0 : Int) ≤ (0 : Int) ∧ (0 : Int) ≤ Option.getD (some (8 : Int)) (↑(List.length (bys b)) : Int) ∧ Option.getD (some (8 : Int)) (↑(List.length (bys b)) : Int) ≤ (↑(List.length (bys b)) : Int) := by (simp [-List.reduceReplicate]; omega)
  have f2 : LV.isl 1 (List.drop 0 (List.take 8 (bys b))) = LV.isl 1 (bys (List.take 8 b)) := by simp
  have f3 : decide (0 < (↑(List.length (bys (List.take 8 b))) : Int)) = true := by simp (disch := omega) [-List.reduceReplicate]
  have f4 : (bys (List.take 8 b))[0]? = some (LV.int IntKind.u8 (atI b 0)) := by simp (disch := first | omega | (simp; omega)) [-List.reduceReplicate]
  have f5 : (0 : Int) ≤ (0 : Int) ∧ (0 : Int) < (↑(List.length (bys (List.take (8 : Nat) b))) : Int) := by simp (disch := omega) [-List.reduceReplicate]
  have f6 : LV.int IntKind.i64 (↑(List.length (bys (List.take 8 b))) : Int) = LV.int IntKind.i64 8 := by simp (disch := omega) [-List.reduceReplicate]
  have f7 : LV.bool (decide (0 < (↑(List.length (bys (List.take 8 b))) : Int))) = LV.bool true := by simp (disch := omega) [-List.reduceReplicate]
  have f8 : (bys (List.take 8 b))[1]? = some (LV.int IntKind.u8 (atI b 1)) := by simp (disch := first | omega | (simp; omega)) [-List.reduceReplicate]
  have f9 : (0 : Int) ≤ (1 : Int) ∧ (1 : Int) < (↑(List.length (bys (List.take (8 : Nat) b))) : Int) := by simp (disch := omega) [-List.reduceReplicate]
  have f10 : (bys (List.take 8 b))[2]? = some (LV.int IntKind.u8 (atI b 2)) := by simp (disch := first | omega | (simp; omega)) [-List.reduceReplicate]
  have f11 : (0 : Int) ≤ (2 : Int) ∧ (2 : Int) < (↑(List.length (bys (List.take (8 : Nat) b))) : Int) := by simp (disch := omega) [-List.reduceReplicate]
  have f12 : (bys (List.take 8 b))[3]? = some (LV.int IntKind.u8 (atI b 3)) := by simp (disch := first | omega | (simp; omega)) [-List.reduceReplicate]
  have f13 : (0 : Int) ≤ (3 : Int) ∧ (3 : Int) < (↑(List.length (bys (List.take (8 : Nat) b))) : Int) := by simp (disch := omega) [-List.reduceReplicate]
  have f14 : (bys (List.take 8 b))[4]? = some (LV.int IntKind.u8 (atI b 4)) := by simp (disch := first | omega | (simp; omega)) [-List.reduceReplicate]
  have f15 : (0 : Int) ≤ (4 : Int) ∧ (4 : Int) < (↑(List.length (bys (List.take (8 : Nat) b))) : Int) := by simp (disch := omega) [-List.reduceReplicate]
  have f16 : (bys (List.take 8 b))[5]? = some (LV.int IntKind.u8 (atI b 5)) := by simp (disch := first | omega | (simp; omega)) [-List.reduceReplicate]
  have f17 : (0 : Int) ≤ (5 : Int) ∧ (5 : Int) < (↑(List.length (bys (List.take (8 : Nat) b))) : Int) := by simp (disch := omega) [-List.reduceReplicate]
  have f18 : (bys (List.take 8 b))[6]? = some (LV.int IntKind.u8 (atI b 6)) := by simp (disch := first | omega | (simp; omega)) [-List.reduceReplicate]
  have f19 : (0 : Int) ≤ (6 : Int) ∧ (6 : Int) < (↑(List.length (bys (List.take (8 : Nat) b))) : Int) := by simp (disch := omega) [-List.reduceReplicate]
  have f20 : (bys (List.take 8 b))[7]? = some (LV.int IntKind.u8 (atI b 7)) := by simp (disch := first | omega | (simp; omega)) [-List.reduceReplicate]
  have f21 : (0 : Int) ≤ (7 : Int) ∧ (7 : Int) < (↑(List.length (bys (List.take (8 : Nat) b))) : Int) := by simp (disch := omega) [-List.reduceReplicate]
  have f22 : LV.bool (decide (1152921504606846976 < bits BinOp.or IntKind.u64 (IntKind.wrap IntKind.u64 (bits BinOp.or IntKind.u64 (IntKind.wrap IntKind.u64 (bits BinOp.or IntKind.u64 (IntKind.wrap IntKind.u64 (bits BinOp.or IntKind.u64 (IntKind.wrap IntKind.u64 (bits BinOp.or IntKind.u64 (IntKind.wrap IntKind.u64 (bits BinOp.or IntKind.u64 (IntKind.wrap IntKind.u64 (bits BinOp.or IntKind.u64 (IntKind.wrap IntKind.u64 (bits BinOp.or IntKind.u64 0 (IntKind.wrap IntKind.u64 (atI b 0)) * 256)) (IntKind.wrap IntKind.u64 (atI b 1)) * 256)) (IntKind.wrap IntKind.u64 (atI b 2)) * 256)) (IntKind.wrap IntKind.u64 (atI b 3)) * 256)) (IntKind.wrap IntKind.u64 (atI b 4)) * 256)) (IntKind.wrap IntKind.u64 (atI b 5)) * 256)) (IntKind.wrap IntKind.u64 (atI b 6)) * 256)) (IntKind.wrap IntKind.u64 (atI b 7)))) = LV.bool false := by (simp [-List.reduceReplicate]; omega)
  exact drun_ok (fun h => And.intro (f1) <| And.intro (f2) <| And.intro (congrArg LV.bool f3) <| And.intro (f5) <| And.intro (f4) <| And.intro (f6) <| And.intro (f7) <| And.intro (f9) <| And.intro (f8) <| And.intro (f11) <| And.intro (f10) <| And.intro (f13) <| And.intro (f12) <| And.intro (f15) <| And.intro (f14) <| And.intro (f17) <| And.intro (f16) <| And.intro (f19) <| And.intro (f18) <| And.intro (f21) <| And.intro (f20) <| And.intro (f22) <| h) (.s (.a) (.s (.a) (.s (.s (.r [.a, .v (vOf f2) (.q)]) (.k (.l (.i (.s (.a) (.s (.b true (.a)) (.s (.k (.s (.r [.e (rOf f4)]) (.r [.a, .a, .a, .a, .z [.y 8 (vOf f6), .y 10 (vOf f7)] (.a)]))) (.r [])))) (.i (.s (.r []) (.s (.a) (.s (.k (.s (.r [.e (rOf f8)]) (.r []))) (.r [])))) (.i (.s (.r []) (.s (.a) (.s (.k (.s (.r [.e (rOf f10)]) (.r []))) (.r [])))) (.i (.s (.r []) (.s (.a) (.s (.k (.s (.r [.e (rOf f12)]) (.r []))) (.r [])))) (.i (.s (.r []) (.s (.a) (.s (.k (.s (.r [.e (rOf f14)]) (.r []))) (.r [])))) (.i (.s (.r []) (.s (.a) (.s (.k (.s (.r [.e (rOf f16)]) (.r []))) (.r [])))) (.i (.s (.r []) (.s (.a) (.s (.k (.s (.r [.e (rOf f18)]) (.r []))) (.r [])))) (.i (.s (.r []) (.s (.a) (.s (.k (.s (.r [.e (rOf f20)]) (.r []))) (.r [])))) (.i (.s (.r []) (.a)) (.a))))))))))))) (.s (.s (.r [.a, .v (vOf f22) (.a)]) (.a)) (.s (.r []) (.a)))))) [] .a (by kernel_rfl)
def lastN (b : List Int) : Int := num8 (b.drop 56)
theorem read_ok (n : Nat) (b : List Int) (hb : b.length = 64) (h1 : num8 b ≤ 1152921504606846976) (h2 : num8 (b.drop 56) ≤ 1152921504606846976)
    (h3 : IntKind.i64.wrap (num8 b) = IntKind.i64.wrap (num8 (b.drop 56))) (h4 : 0 ≤ atI b 8) (h5 : atI b 8 ≤ 47) : lrun Try.prog C0 (lcall Try.prog C0 (n + 40)) (n + 40) 38 [.isl 1 (bys b)] ⟨0, []⟩ = some (.agg [.int .i64 (IntKind.i64.wrap (num8 b)), .isl 1 (bys ((b.drop 9).take (atI b 8).toNat))], ⟨0, []⟩) := by
  rw [h3]
  have f1 := number_ok (n + 19) b (by omega) h1
  have f2 : LV.int IntKind.i64 (IntKind.wrap IntKind.i64 (num8 b)) = LV.int IntKind.i64 (IntKind.wrap IntKind.i64 (num8 (List.drop 56 b))) := by (simp [-List.reduceReplicate]; omega)
  have f3 : (0 : Int) ≤ (56 : Int) ∧ (56 : Int) ≤ Option.getD none (↑(List.length (bys b)) : Int) ∧ Option.getD none (↑(List.length (bys b)) : Int) ≤ (↑(List.length (bys b)) : Int) := by (simp [-List.reduceReplicate]; omega)
  have f4 : LV.isl 1 (List.drop 56 (List.take (Int.toNat (Option.getD none (↑(List.length (bys b)) : Int))) (bys b))) = LV.isl 1 (bys (List.drop 56 b)) := by simp
  have f5 := number_ok (n + 19) (List.drop 56 b) (by (simp [-List.reduceReplicate]; omega)) h2
  have f6 : (bys b)[8]? = some (LV.int IntKind.u8 (atI b 8)) := by simp (disch := omega) [-List.reduceReplicate]
  have f7 : (0 : Int) ≤ (8 : Int) ∧ (8 : Int) < (↑(List.length (bys b)) : Int) := by (simp [-List.reduceReplicate]; omega)
  have f8 : LV.int IntKind.i64 (IntKind.wrap IntKind.i64 (atI b 8)) = LV.int IntKind.i64 (atI b 8) := by simp (disch := omega) [-List.reduceReplicate]
  have f9 : (LV.bool !decide (IntKind.wrap IntKind.i64 (num8 (List.drop 56 b)) = IntKind.wrap IntKind.i64 (num8 (List.drop 56 b)))) = LV.bool false := by simp
  have f10 : LV.bool (decide (47 < atI b 8)) = LV.bool false := by (simp [-List.reduceReplicate]; omega)
  have f11 : 0 ≤ atI b 8 ∧ atI b 8 ≤ atI b 8 ∧ 1 * atI b 8 ≤ 281474976710656 := by omega
  have f12 : LObj.row 5 1 (List.replicate (Int.toNat (atI b 8)) (LV.int IntKind.u8 0)) = LObj.row 5 1 (bys (List.replicate (Int.toNat (atI b 8)) 0)) := by simp
  have f13 : (0 : Int) ≤ (9 : Int) ∧ (9 : Int) ≤ Option.getD none (↑(List.length (bys b)) : Int) ∧ Option.getD none (↑(List.length (bys b)) : Int) ≤ (↑(List.length (bys b)) : Int) := by (simp [-List.reduceReplicate]; omega)
  have f14 : LV.isl 1 (List.drop 9 (List.take (Int.toNat (Option.getD none (↑(List.length (bys b)) : Int))) (bys b))) = LV.isl 1 (bys (List.drop 9 b)) := by simp
  have f15 : okElems true 1 (sealL (bys (List.drop 9 b))) = true := by simp
  have f16 : 0 + Int.toNat (atI b 8) ≤ List.length (bys (List.replicate (Int.toNat (atI b 8)) 0)) := by simp
  have f17 : LV.int IntKind.i64 (↑(min (List.length (sealL (bys (List.drop 9 b)))) (Int.toNat (atI b 8))) : Int) = LV.int IntKind.i64 (max (atI b 8) 0) := by simp (disch := omega) [-List.reduceReplicate]
  have f18 : LObj.row 5 1 (lsplice (bys (List.replicate (Int.toNat (atI b 8)) 0)) 0 (List.take (min (List.length (sealL (bys (List.drop 9 b)))) (Int.toNat (atI b 8))) (sealL (bys (List.drop 9 b))))) = LObj.row 5 1 (bys (List.take (Int.toNat (atI b 8)) (List.drop 9 b))) := by simp (disch := first | omega | (simp; omega)) [-List.reduceReplicate]
  have f19 : LV.agg [LV.int IntKind.i64 (IntKind.wrap IntKind.i64 (num8 (List.drop 56 b))), if 1 = 1 then if 1 = 1 ∧ 0 + Int.toNat (atI b 8) ≤ List.length (bys (List.take (Int.toNat (atI b 8)) (List.drop 9 b))) ∧ capLe (Int.toNat (atI b 8)) none = true then LV.isl 1 (List.take (Int.toNat (atI b 8)) (List.drop 0 (bys (List.take (Int.toNat (atI b 8)) (List.drop 9 b))))) else LV.any else LV.sl 1 1 0 (Int.toNat (atI b 8)) none] = LV.agg [LV.int IntKind.i64 (IntKind.wrap IntKind.i64 (num8 (List.drop 56 b))), LV.isl 1 (bys (List.take (Int.toNat (atI b 8)) (List.drop 9 b)))] := by simp (disch := first | omega | (simp; omega)) [-List.reduceReplicate]
  have f20 : LObj.box 79 [LV.int IntKind.i64 (IntKind.wrap IntKind.i64 (num8 (List.drop 56 b))), if 1 = 1 then if 1 = 1 ∧ 0 + Int.toNat (atI b 8) ≤ List.length (bys (List.take (Int.toNat (atI b 8)) (List.drop 9 b))) ∧ capLe (Int.toNat (atI b 8)) none = true then LV.isl 1 (List.take (Int.toNat (atI b 8)) (List.drop 0 (bys (List.take (Int.toNat (atI b 8)) (List.drop 9 b))))) else LV.any else LV.sl 1 1 0 (Int.toNat (atI b 8)) none] = LObj.box 79 [LV.int IntKind.i64 (IntKind.wrap IntKind.i64 (num8 (List.drop 56 b))), LV.isl 1 (bys (List.take (Int.toNat (atI b 8)) (List.drop 9 b)))] := by simp (disch := first | omega | (simp; omega)) [-List.reduceReplicate]
  exact drun_ok (fun h => And.intro (f1) <| And.intro (f2) <| And.intro (f3) <| And.intro (f4) <| And.intro (f5) <| And.intro (f7) <| And.intro (f6) <| And.intro (f8) <| And.intro (f9) <| And.intro (f10) <| And.intro (f11) <| And.intro (congrArg some f12) <| And.intro (f13) <| And.intro (f14) <| And.intro (f15) <| And.intro (f16) <| And.intro (f17) <| And.intro (congrArg some f18) <| And.intro (f19) <| And.intro (congrArg some f20) <| h) (.s (.a) (.s (.d [] [.a, .v (vOf f2) (.f (rOf f1)), .a, .v (vOf f4) (.q)] [] [.f (rOf f5)]) (.s (.r [.a, .e (rOf f6), .a, .v (vOf f8) (.a)]) (.s (.s (.r [.a, .a, .v (vOf f9) (.a), .a, .a, .a, .z [.y 21 (vOf f10)] (.a)]) (.a)) (.s (.r [.a, .x 1 (vOf f12) (.q)]) (.s (.r [.a, .a, .v (vOf f14) (.q), .x 1 (vOf f18) (.v (vOf f17) (.q))]) (.s (.r []) (.a)))))))) [.y 0 (vOf f19), .x 0 (vOf f20)] .q (by kernel_rfl)
theorem read_no (n : Nat) (b : List Int) (hb : b.length = 64) (h1 : num8 b ≤ 1152921504606846976) (h2 : num8 (b.drop 56) ≤ 1152921504606846976)
    (h3 : ¬ IntKind.i64.wrap (num8 b) = IntKind.i64.wrap (num8 (b.drop 56))) : lrun Try.prog C0 (lcall Try.prog C0 (n + 40)) (n + 40) 38 [.isl 1 (bys b)] ⟨0, []⟩ = some (.agg [.int .i64 0, .isl 1 []], ⟨0, []⟩) := by
  have f1 := number_ok (n + 19) b (by omega) h1
  have f2 : (0 : Int) ≤ (56 : Int) ∧ (56 : Int) ≤ Option.getD none (↑(List.length (bys b)) : Int) ∧ Option.getD none (↑(List.length (bys b)) : Int) ≤ (↑(List.length (bys b)) : Int) := by (simp [-List.reduceReplicate]; omega)
  have f3 : LV.isl 1 (List.drop 56 (List.take (Int.toNat (Option.getD none (↑(List.length (bys b)) : Int))) (bys b))) = LV.isl 1 (bys (List.drop 56 b)) := by simp
  have f4 := number_ok (n + 19) (List.drop 56 b) (by (simp [-List.reduceReplicate]; omega)) h2
  have f5 : (bys b)[8]? = some (LV.int IntKind.u8 (atI b 8)) := by simp (disch := omega) [-List.reduceReplicate]
  have f6 : (0 : Int) ≤ (8 : Int) ∧ (8 : Int) < (↑(List.length (bys b)) : Int) := by (simp [-List.reduceReplicate]; omega)
  have f7 : (LV.bool !decide (IntKind.wrap IntKind.i64 (num8 b) = IntKind.wrap IntKind.i64 (num8 (List.drop 56 b)))) = LV.bool true := by (simp [-List.reduceReplicate]; omega)
  exact drun_ok (fun h => And.intro (f1) <| And.intro (f2) <| And.intro (f3) <| And.intro (f4) <| And.intro (f6) <| And.intro (f5) <| And.intro (f7) <| h) (.s (.a) (.s (.d [] [.a, .f (rOf f1), .a, .v (vOf f3) (.q)] [] [.f (rOf f4)]) (.s (.r [.a, .e (rOf f5)]) (.s (.s (.r [.a, .a, .v (vOf f7) (.a)]) (.c (.s (.r []) (.a)))) .a)))) [] .a (by kernel_rfl)
theorem sput_looseO (n : Nat) (at_ tn : Int) (w : List Int) (lo : Bool) (rm : Int) (m : List (Int × List Int)) (p : List (Int × Option (List Int))) (v : List Int) (hv : v.length ≤ 47) (hl : lo = true) : lrun Try.prog C0 (lcall Try.prog C0 (n + 40)) (n + 40) 13 [.ptr 0 0, .isl 1 (bys v)] ⟨2, [(0, sO at_ tn (vO w) lo), (1, dO rm m p)]⟩ =
    some (.ifc 115 (.agg [.str [116, 117, 114, 110], .int .i64 tn, .ifc 71 (.int .i64 10)]), ⟨2, [(0, sO at_ tn (vO w) lo), (1, dO rm m p)]⟩) := by
  have f1 : decide (47 < (↑(List.length (bys v)) : Int)) = false := by (simp [-List.reduceReplicate]; omega)
  have f2 : lo = true := hl
  exact drun_ok (fun h => And.intro (congrArg LV.bool f1) <| And.intro (congrArg LV.bool f2) <| h) (.s (.a) (.s (.k (.s (.a) (.b false (.s (.a) (.b true (.a)))))) .a)) [] .a (by kernel_rfl)
theorem sput_looseI (n : Nat) (at_ tn : Int) (w : List Int) (lo : Bool) (rm : Int) (m : List (Int × List Int)) (p : List (Int × Option (List Int))) (v : List Int) (hv : v.length ≤ 47) (hl : lo = true) : lrun Try.prog C0 (lcall Try.prog C0 (n + 40)) (n + 40) 13 [.ptr 0 0, .isl 1 (bys v)] ⟨2, [(0, sO at_ tn (vI w) lo), (1, dO rm m p)]⟩ =
    some (.ifc 115 (.agg [.str [116, 117, 114, 110], .int .i64 tn, .ifc 71 (.int .i64 10)]), ⟨2, [(0, sO at_ tn (vI w) lo), (1, dO rm m p)]⟩) := by
  have f1 : decide (47 < (↑(List.length (bys v)) : Int)) = false := by (simp [-List.reduceReplicate]; omega)
  have f2 : lo = true := hl
  exact drun_ok (fun h => And.intro (congrArg LV.bool f1) <| And.intro (congrArg LV.bool f2) <| h) (.s (.a) (.s (.k (.s (.a) (.b false (.s (.a) (.b true (.a)))))) .a)) [] .a (by kernel_rfl)
/-- What a value is as a block. -/
def enc (t : Int) (v : List Int) : List Int :=
  spliceI (((((((((((((((((( List.replicate 64 0).set 7 t).set 63 t).set 6 0).set 62 0).set 5 0).set 61 0).set 4 0).set 60 0).set 3 0).set 59 0).set 2 0).set 58 0).set 1 0).set 57 0).set 0 0).set 56 0).set 8 (v.length : Int)) 9 v
theorem sput_okO (n : Nat) (at_ tn : Int) (w : List Int) (lo : Bool) (rm : Int) (m : List (Int × List Int)) (p : List (Int × Option (List Int))) (v : List Int) (hv : v.length ≤ 47) (hl : lo = false) (ht : 0 ≤ tn) (ht2 : tn ≤ 200) (h0 : 0 ≤ at_) (h1 : at_ ≤ 1000) (hp : p.length ≤ 1000000) (ho : okP p)
    (hk : kget (needs m p) (at_ + (tn + 1) % 2) = none) (hr : (needs m p).length < rm) : lrun Try.prog C0 (lcall Try.prog C0 (n + 60)) (n + 60) 13 [.ptr 0 0, .isl 1 (bys v)] ⟨2, [(0, sO at_ tn (vO w) lo), (1, dO rm m p)]⟩ =
    some (.nili, ⟨2, [(0, sO at_ (tn + 1) (vO v) true), (1, dO rm m (p ++ [(at_ + (tn + 1) % 2, some (enc (tn + 1) v))]))]⟩) := by
  have f1 : decide (47 < (↑(List.length (bys v)) : Int)) = false := by (simp [-List.reduceReplicate]; omega)
  have f2 : lo = false := hl
  have f3 : LV.int IntKind.i64 (IntKind.wrap IntKind.i64 (tn + 1)) = LV.int IntKind.i64 (tn + 1) := by simp (disch := omega) [-List.reduceReplicate]
  have f4 : LV.int IntKind.u8 (IntKind.wrap IntKind.u8 (tn + 1)) = LV.int IntKind.u8 (tn + 1) := by simp (disch := omega) [-List.reduceReplicate]
  have f5 : LV.int IntKind.u8 (IntKind.wrap IntKind.u8 (Int.fdiv (tn + 1) 256)) = LV.int IntKind.u8 0 := by simp (disch := omega) [-List.reduceReplicate]
  have f6 : LV.int IntKind.u8 (IntKind.wrap IntKind.u8 (Int.fdiv (Int.fdiv (tn + 1) 256) 256)) = LV.int IntKind.u8 0 := by simp (disch := omega) [-List.reduceReplicate]
  have f7 : LV.int IntKind.u8 (IntKind.wrap IntKind.u8 (Int.fdiv (Int.fdiv (Int.fdiv (tn + 1) 256) 256) 256)) = LV.int IntKind.u8 0 := by simp (disch := omega) [-List.reduceReplicate]
  have f8 : LV.int IntKind.u8 (IntKind.wrap IntKind.u8 (Int.fdiv (Int.fdiv (Int.fdiv (Int.fdiv (tn + 1) 256) 256) 256) 256)) = LV.int IntKind.u8 0 := by simp (disch := omega) [-List.reduceReplicate]
  have f9 : LV.int IntKind.u8 (IntKind.wrap IntKind.u8 (Int.fdiv (Int.fdiv (Int.fdiv (Int.fdiv (Int.fdiv (tn + 1) 256) 256) 256) 256) 256)) = LV.int IntKind.u8 0 := by simp (disch := omega) [-List.reduceReplicate]
  have f10 : LV.int IntKind.u8 (IntKind.wrap IntKind.u8 (Int.fdiv (Int.fdiv (Int.fdiv (Int.fdiv (Int.fdiv (Int.fdiv (tn + 1) 256) 256) 256) 256) 256) 256)) = LV.int IntKind.u8 0 := by simp (disch := omega) [-List.reduceReplicate]
  have f11 : LV.int IntKind.u8 (IntKind.wrap IntKind.u8 (Int.fdiv (Int.fdiv (Int.fdiv (Int.fdiv (Int.fdiv (Int.fdiv (Int.fdiv (tn + 1) 256) 256) 256) 256) 256) 256) 256)) = LV.int IntKind.u8 0 := by simp (disch := omega) [-List.reduceReplicate]
  have f12 : LV.int IntKind.u8 (IntKind.wrap IntKind.u8 (↑(List.length (bys v)) : Int)) = LV.int IntKind.u8 (↑(List.length v) : Int) := by simp (disch := omega) [-List.reduceReplicate]
  have f13 : okElems true 1 (sealL (bys v)) = true := by simp
  have f14 : 64 ≤ 64 := by omega
  have f15 : LV.int IntKind.i64 (↑(min (List.length (sealL (bys v))) 55) : Int) = LV.int IntKind.i64 (↑(List.length v) : Int) := by simp (disch := omega) [-List.reduceReplicate]
  have f16 : LObj.box 84 [LV.ptr 1 0, LV.int IntKind.i64 at_, LV.int IntKind.i64 tn, LV.own 5 1 (bys w), LV.bool lo] = LObj.box 84 [LV.ptr 1 0, LV.int IntKind.i64 at_, LV.int IntKind.i64 tn, LV.own 5 1 (bys w), LV.bool false] := by (simp [-List.reduceReplicate]; omega)
  have f17 : LObj.row 5 1 (lsplice (List.set (List.set (List.set (List.set (List.set (List.set (List.set (List.set (List.set (List.set (List.set (List.set (List.set (List.set (List.set (List.set (List.set (List.replicate 64 (LV.int IntKind.u8 0)) 7 (LV.int IntKind.u8 (tn + 1))) 63 (LV.int IntKind.u8 (tn + 1))) 6 (LV.int IntKind.u8 0)) 62 (LV.int IntKind.u8 0)) 5 (LV.int IntKind.u8 0)) 61 (LV.int IntKind.u8 0)) 4 (LV.int IntKind.u8 0)) 60 (LV.int IntKind.u8 0)) 3 (LV.int IntKind.u8 0)) 59 (LV.int IntKind.u8 0)) 2 (LV.int IntKind.u8 0)) 58 (LV.int IntKind.u8 0)) 1 (LV.int IntKind.u8 0)) 57 (LV.int IntKind.u8 0)) 0 (LV.int IntKind.u8 0)) 56 (LV.int IntKind.u8 0)) 8 (LV.int IntKind.u8 (↑(List.length v) : Int))) 9 (List.take (min (List.length (sealL (bys v))) 55) (sealL (bys v)))) = LObj.row 5 1 (bys (spliceI (List.set (List.set (List.set (List.set (List.set (List.set (List.set (List.set (List.set (List.set (List.set (List.set (List.set (List.set (List.set (List.set (List.set (List.replicate 64 0) 7 (tn + 1)) 63 (tn + 1)) 6 0) 62 0) 5 0) 61 0) 4 0) 60 0) 3 0) 59 0) 2 0) 58 0) 1 0) 57 0) 0 0) 56 0) 8 (↑(List.length v) : Int)) 9 v)) := by simp (disch := omega) [-List.reduceReplicate]
  have f18 : LV.int IntKind.i64 (↑(List.length (bys v)) : Int) = LV.int IntKind.i64 (↑(List.length v) : Int) := by simp
  have f19 : LObj.map IntKind.i64 (List.zip (mapK m) (mapV m)) = LObj.map IntKind.i64 (mapE m) := by simp
  have f20 : LObj.box 84 [LV.ptr 1 0, LV.int IntKind.i64 at_, LV.int IntKind.i64 tn, LV.sl 1 3 0 (List.length (bys w)) none, LV.bool false] = LObj.box 84 [LV.ptr 1 0, LV.int IntKind.i64 at_, LV.int IntKind.i64 tn, LV.sl 1 3 0 (List.length w) none, LV.bool false] := by simp
  have f21 : LObj.box 77 [LV.int IntKind.i64 rm, LV.map 4, LV.sl 2 5 0 (List.length (pnds p)) none] = LObj.box 77 [LV.int IntKind.i64 rm, LV.map 4, LV.sl 2 5 0 (List.length p) none] := by simp
  have f22 : LV.int IntKind.i64 (IntKind.wrap IntKind.i64 (at_ + Int.tmod (tn + 1) 2)) = LV.int IntKind.i64 (at_ + (tn + 1) % 2) := by simp (disch := omega) [-List.reduceReplicate]
  have f23 : List.length (pnds p) = List.length p := by simp
  have f24 : LObj.box 77 [LV.int IntKind.i64 rm, LV.omap IntKind.i64 (List.map (fun x => Prod.fst x) (mapE m)) (List.map (fun x => Prod.snd x) (mapE m)), LV.own 88 2 (pnds p)] = LObj.box 77 [LV.int IntKind.i64 rm, LV.omap IntKind.i64 (mapK m) (mapV m), LV.own 88 2 (pnds p)] := by simp
  have f25 := writeS_new (n + 39) (at_ + (tn + 1) % 2) (spliceI (List.set (List.set (List.set (List.set (List.set (List.set (List.set (List.set (List.set (List.set (List.set (List.set (List.set (List.set (List.set (List.set (List.set (List.replicate 64 0) 7 (tn + 1)) 63 (tn + 1)) 6 0) 62 0) 5 0) 61 0) 4 0) 60 0) 3 0) 59 0) 2 0) 58 0) 1 0) 57 0) 0 0) 56 0) 8 (↑(List.length v) : Int)) 9 v) rm m p (by omega) (by omega) (by simp (disch := omega) [-List.reduceReplicate]) hp ho hk hr
  have f26 : 0 ≤ (↑(List.length (bys v)) : Int) ∧ (↑(List.length (bys v)) : Int) ≤ (↑(List.length (bys v)) : Int) ∧ 1 * (↑(List.length (bys v)) : Int) ≤ 281474976710656 := by (simp [-List.reduceReplicate]; omega)
  have f27 : LV.sl 1 6 0 (Int.toNat (↑(List.length (bys v)) : Int)) none = LV.sl 1 6 0 (List.length v) none := by simp
  have f28 : LObj.row 5 1 (List.replicate (Int.toNat (↑(List.length (bys v)) : Int)) (LV.int IntKind.u8 0)) = LObj.row 5 1 (bys (List.replicate (List.length v) 0)) := by simp
  have f29 : 0 + List.length v ≤ List.length (bys (List.replicate (List.length v) 0)) := by simp
  have f30 : LV.int IntKind.i64 (↑(min (List.length (sealL (bys v))) (List.length v)) : Int) = LV.int IntKind.i64 (↑(List.length v) : Int) := by simp
  have f31 : LObj.row 5 1 (lsplice (bys (List.replicate (List.length v) 0)) 0 (List.take (min (List.length (sealL (bys v))) (List.length v)) (sealL (bys v)))) = LObj.row 5 1 (bys v) := by simp
  have f32 : List.length (bys v) = List.length v := by simp
  exact drun_ok (fun h => And.intro (congrArg LV.bool f1) <| And.intro (congrArg LV.bool f2) <| And.intro (f3) <| And.intro (f4) <| And.intro (f4) <| And.intro (f5) <| And.intro (f5) <| And.intro (f6) <| And.intro (f6) <| And.intro (f7) <| And.intro (f7) <| And.intro (f8) <| And.intro (f8) <| And.intro (f9) <| And.intro (f9) <| And.intro (f10) <| And.intro (f10) <| And.intro (f11) <| And.intro (f11) <| And.intro (f12) <| And.intro (f13) <| And.intro (f14) <| And.intro (f15) <| And.intro (congrArg some f16) <| And.intro (congrArg some f17) <| And.intro (f18) <| And.intro (congrArg some f19) <| And.intro (congrArg some f20) <| And.intro (congrArg some f21) <| And.intro (f22) <| And.intro (f23) <| And.intro (congrArg some f24) <| And.intro (f25) <| And.intro (f26) <| And.intro (f27) <| And.intro (congrArg some f28) <| And.intro (f13) <| And.intro (f29) <| And.intro (f30) <| And.intro (congrArg some f31) <| And.intro (f32) <| h) (.s (.a) (.s (.k (.s (.a) (.b false (.s (.a) (.b false (.a)))))) (.s (.r [.a, .a, .a, .a, .v (vOf f3) (.a)]) (.s (.a) (.s (.s (.a) (.k (.l (.i (.s (.a) (.s (.k (.r [.a, .a, .a, .a, .a, .a, .v (vOf f4) (.a), .a, .v (vOf f4) (.a)])) (.a))) (.i (.s (.a) (.s (.k (.r [.a, .a, .a, .a, .a, .a, .v (vOf f5) (.a), .a, .v (vOf f5) (.a)])) (.a))) (.i (.s (.a) (.s (.k (.r [.a, .a, .a, .a, .a, .a, .v (vOf f6) (.a), .a, .v (vOf f6) (.a)])) (.a))) (.i (.s (.a) (.s (.k (.r [.a, .a, .a, .a, .a, .a, .v (vOf f7) (.a), .a, .v (vOf f7) (.a)])) (.a))) (.i (.s (.a) (.s (.k (.r [.a, .a, .a, .a, .a, .a, .v (vOf f8) (.a), .a, .v (vOf f8) (.a)])) (.a))) (.i (.s (.a) (.s (.k (.r [.a, .a, .a, .a, .a, .a, .v (vOf f9) (.a), .a, .v (vOf f9) (.a)])) (.a))) (.i (.s (.a) (.s (.k (.r [.a, .a, .a, .a, .a, .a, .v (vOf f10) (.a), .a, .v (vOf f10) (.a)])) (.a))) (.i (.s (.a) (.s (.k (.r [.a, .a, .a, .a, .a, .a, .v (vOf f11) (.a), .a, .v (vOf f11) (.a)])) (.a))) (.a)))))))))))) (.s (.r [.a, .a, .a, .v (vOf f12) (.a)]) (.s (.r [.a, .a, .a, .x 2 (vOf f17) (.x 0 (vOf f16) (.v (vOf f15) (.q)))]) (.s (.s (.d [.y 53 (vOf f18), .x 4 (vOf f19), .x 0 (vOf f20), .x 1 (vOf f21)] [.a, .a, .a, .a, .a, .a, .a, .a, .a, .a, .v (vOf f22) (.a), .a] [] [.fr .q [.x 1 (vOf f24)] (rOf f25)]) (.a)) (.s (.a) (.s (.r [.a, .a, .a, .x 6 (vOf f28) (.v (vOf f27) (.q))]) (.s (.r [.a, .a, .a, .a, .a, .x 6 (vOf f31) (.v (vOf f30) (.q))]) (.a)))))))))))) [] .q (by kernel_rfl)
theorem sput_okI (n : Nat) (at_ tn : Int) (w : List Int) (lo : Bool) (rm : Int) (m : List (Int × List Int)) (p : List (Int × Option (List Int))) (v : List Int) (hv : v.length ≤ 47) (hl : lo = false) (ht : 0 ≤ tn) (ht2 : tn ≤ 200) (h0 : 0 ≤ at_) (h1 : at_ ≤ 1000) (hp : p.length ≤ 1000000) (ho : okP p)
    (hk : kget (needs m p) (at_ + (tn + 1) % 2) = none) (hr : (needs m p).length < rm) : lrun Try.prog C0 (lcall Try.prog C0 (n + 60)) (n + 60) 13 [.ptr 0 0, .isl 1 (bys v)] ⟨2, [(0, sO at_ tn (vI w) lo), (1, dO rm m p)]⟩ =
    some (.nili, ⟨2, [(0, sO at_ (tn + 1) (vO v) true), (1, dO rm m (p ++ [(at_ + (tn + 1) % 2, some (enc (tn + 1) v))]))]⟩) := by
  have f1 : decide (47 < (↑(List.length (bys v)) : Int)) = false := by (simp [-List.reduceReplicate]; omega)
  have f2 : lo = false := hl
  have f3 : LV.int IntKind.i64 (IntKind.wrap IntKind.i64 (tn + 1)) = LV.int IntKind.i64 (tn + 1) := by simp (disch := omega) [-List.reduceReplicate]
  have f4 : LV.int IntKind.u8 (IntKind.wrap IntKind.u8 (tn + 1)) = LV.int IntKind.u8 (tn + 1) := by simp (disch := omega) [-List.reduceReplicate]
  have f5 : LV.int IntKind.u8 (IntKind.wrap IntKind.u8 (Int.fdiv (tn + 1) 256)) = LV.int IntKind.u8 0 := by simp (disch := omega) [-List.reduceReplicate]
  have f6 : LV.int IntKind.u8 (IntKind.wrap IntKind.u8 (Int.fdiv (Int.fdiv (tn + 1) 256) 256)) = LV.int IntKind.u8 0 := by simp (disch := omega) [-List.reduceReplicate]
  have f7 : LV.int IntKind.u8 (IntKind.wrap IntKind.u8 (Int.fdiv (Int.fdiv (Int.fdiv (tn + 1) 256) 256) 256)) = LV.int IntKind.u8 0 := by simp (disch := omega) [-List.reduceReplicate]
  have f8 : LV.int IntKind.u8 (IntKind.wrap IntKind.u8 (Int.fdiv (Int.fdiv (Int.fdiv (Int.fdiv (tn + 1) 256) 256) 256) 256)) = LV.int IntKind.u8 0 := by simp (disch := omega) [-List.reduceReplicate]
  have f9 : LV.int IntKind.u8 (IntKind.wrap IntKind.u8 (Int.fdiv (Int.fdiv (Int.fdiv (Int.fdiv (Int.fdiv (tn + 1) 256) 256) 256) 256) 256)) = LV.int IntKind.u8 0 := by simp (disch := omega) [-List.reduceReplicate]
  have f10 : LV.int IntKind.u8 (IntKind.wrap IntKind.u8 (Int.fdiv (Int.fdiv (Int.fdiv (Int.fdiv (Int.fdiv (Int.fdiv (tn + 1) 256) 256) 256) 256) 256) 256)) = LV.int IntKind.u8 0 := by simp (disch := omega) [-List.reduceReplicate]
  have f11 : LV.int IntKind.u8 (IntKind.wrap IntKind.u8 (Int.fdiv (Int.fdiv (Int.fdiv (Int.fdiv (Int.fdiv (Int.fdiv (Int.fdiv (tn + 1) 256) 256) 256) 256) 256) 256) 256)) = LV.int IntKind.u8 0 := by simp (disch := omega) [-List.reduceReplicate]
  have f12 : LV.int IntKind.u8 (IntKind.wrap IntKind.u8 (↑(List.length (bys v)) : Int)) = LV.int IntKind.u8 (↑(List.length v) : Int) := by simp (disch := omega) [-List.reduceReplicate]
  have f13 : okElems true 1 (sealL (bys v)) = true := by simp
  have f14 : 64 ≤ 64 := by omega
  have f15 : LV.int IntKind.i64 (↑(min (List.length (sealL (bys v))) 55) : Int) = LV.int IntKind.i64 (↑(List.length v) : Int) := by simp (disch := omega) [-List.reduceReplicate]
  have f16 : LObj.box 84 [LV.ptr 1 0, LV.int IntKind.i64 at_, LV.int IntKind.i64 tn, LV.isl 1 (bys w), LV.bool lo] = LObj.box 84 [LV.ptr 1 0, LV.int IntKind.i64 at_, LV.int IntKind.i64 tn, LV.isl 1 (bys w), LV.bool false] := by (simp [-List.reduceReplicate]; omega)
  have f17 : LObj.row 5 1 (lsplice (List.set (List.set (List.set (List.set (List.set (List.set (List.set (List.set (List.set (List.set (List.set (List.set (List.set (List.set (List.set (List.set (List.set (List.replicate 64 (LV.int IntKind.u8 0)) 7 (LV.int IntKind.u8 (tn + 1))) 63 (LV.int IntKind.u8 (tn + 1))) 6 (LV.int IntKind.u8 0)) 62 (LV.int IntKind.u8 0)) 5 (LV.int IntKind.u8 0)) 61 (LV.int IntKind.u8 0)) 4 (LV.int IntKind.u8 0)) 60 (LV.int IntKind.u8 0)) 3 (LV.int IntKind.u8 0)) 59 (LV.int IntKind.u8 0)) 2 (LV.int IntKind.u8 0)) 58 (LV.int IntKind.u8 0)) 1 (LV.int IntKind.u8 0)) 57 (LV.int IntKind.u8 0)) 0 (LV.int IntKind.u8 0)) 56 (LV.int IntKind.u8 0)) 8 (LV.int IntKind.u8 (↑(List.length v) : Int))) 9 (List.take (min (List.length (sealL (bys v))) 55) (sealL (bys v)))) = LObj.row 5 1 (bys (spliceI (List.set (List.set (List.set (List.set (List.set (List.set (List.set (List.set (List.set (List.set (List.set (List.set (List.set (List.set (List.set (List.set (List.set (List.replicate 64 0) 7 (tn + 1)) 63 (tn + 1)) 6 0) 62 0) 5 0) 61 0) 4 0) 60 0) 3 0) 59 0) 2 0) 58 0) 1 0) 57 0) 0 0) 56 0) 8 (↑(List.length v) : Int)) 9 v)) := by simp (disch := omega) [-List.reduceReplicate]
  have f18 : LV.int IntKind.i64 (↑(List.length (bys v)) : Int) = LV.int IntKind.i64 (↑(List.length v) : Int) := by simp
  have f19 : LObj.map IntKind.i64 (List.zip (mapK m) (mapV m)) = LObj.map IntKind.i64 (mapE m) := by simp
  have f20 : LObj.box 77 [LV.int IntKind.i64 rm, LV.map 3, LV.sl 2 4 0 (List.length (pnds p)) none] = LObj.box 77 [LV.int IntKind.i64 rm, LV.map 3, LV.sl 2 4 0 (List.length p) none] := by simp
  have f21 : LV.int IntKind.i64 (IntKind.wrap IntKind.i64 (at_ + Int.tmod (tn + 1) 2)) = LV.int IntKind.i64 (at_ + (tn + 1) % 2) := by simp (disch := omega) [-List.reduceReplicate]
  have f22 : List.length (pnds p) = List.length p := by simp
  have f23 : LObj.box 77 [LV.int IntKind.i64 rm, LV.omap IntKind.i64 (List.map (fun x => Prod.fst x) (mapE m)) (List.map (fun x => Prod.snd x) (mapE m)), LV.own 88 2 (pnds p)] = LObj.box 77 [LV.int IntKind.i64 rm, LV.omap IntKind.i64 (mapK m) (mapV m), LV.own 88 2 (pnds p)] := by simp
  have f24 := writeS_new (n + 39) (at_ + (tn + 1) % 2) (spliceI (List.set (List.set (List.set (List.set (List.set (List.set (List.set (List.set (List.set (List.set (List.set (List.set (List.set (List.set (List.set (List.set (List.set (List.replicate 64 0) 7 (tn + 1)) 63 (tn + 1)) 6 0) 62 0) 5 0) 61 0) 4 0) 60 0) 3 0) 59 0) 2 0) 58 0) 1 0) 57 0) 0 0) 56 0) 8 (↑(List.length v) : Int)) 9 v) rm m p (by omega) (by omega) (by simp (disch := omega) [-List.reduceReplicate]) hp ho hk hr
  have f25 : 0 ≤ (↑(List.length (bys v)) : Int) ∧ (↑(List.length (bys v)) : Int) ≤ (↑(List.length (bys v)) : Int) ∧ 1 * (↑(List.length (bys v)) : Int) ≤ 281474976710656 := by (simp [-List.reduceReplicate]; omega)
  have f26 : LV.sl 1 5 0 (Int.toNat (↑(List.length (bys v)) : Int)) none = LV.sl 1 5 0 (List.length v) none := by simp
  have f27 : LObj.row 5 1 (List.replicate (Int.toNat (↑(List.length (bys v)) : Int)) (LV.int IntKind.u8 0)) = LObj.row 5 1 (bys (List.replicate (List.length v) 0)) := by simp
  have f28 : 0 + List.length v ≤ List.length (bys (List.replicate (List.length v) 0)) := by simp
  have f29 : LV.int IntKind.i64 (↑(min (List.length (sealL (bys v))) (List.length v)) : Int) = LV.int IntKind.i64 (↑(List.length v) : Int) := by simp
  have f30 : LObj.row 5 1 (lsplice (bys (List.replicate (List.length v) 0)) 0 (List.take (min (List.length (sealL (bys v))) (List.length v)) (sealL (bys v)))) = LObj.row 5 1 (bys v) := by simp
  have f31 : List.length (bys v) = List.length v := by simp
  exact drun_ok (fun h => And.intro (congrArg LV.bool f1) <| And.intro (congrArg LV.bool f2) <| And.intro (f3) <| And.intro (f4) <| And.intro (f4) <| And.intro (f5) <| And.intro (f5) <| And.intro (f6) <| And.intro (f6) <| And.intro (f7) <| And.intro (f7) <| And.intro (f8) <| And.intro (f8) <| And.intro (f9) <| And.intro (f9) <| And.intro (f10) <| And.intro (f10) <| And.intro (f11) <| And.intro (f11) <| And.intro (f12) <| And.intro (f13) <| And.intro (f14) <| And.intro (f15) <| And.intro (congrArg some f16) <| And.intro (congrArg some f17) <| And.intro (f18) <| And.intro (congrArg some f19) <| And.intro (congrArg some f20) <| And.intro (f21) <| And.intro (f22) <| And.intro (congrArg some f23) <| And.intro (f24) <| And.intro (f25) <| And.intro (f26) <| And.intro (congrArg some f27) <| And.intro (f13) <| And.intro (f28) <| And.intro (f29) <| And.intro (congrArg some f30) <| And.intro (f31) <| h) (.s (.a) (.s (.k (.s (.a) (.b false (.s (.a) (.b false (.a)))))) (.s (.r [.a, .a, .a, .a, .v (vOf f3) (.a)]) (.s (.a) (.s (.s (.a) (.k (.l (.i (.s (.a) (.s (.k (.r [.a, .a, .a, .a, .a, .a, .v (vOf f4) (.a), .a, .v (vOf f4) (.a)])) (.a))) (.i (.s (.a) (.s (.k (.r [.a, .a, .a, .a, .a, .a, .v (vOf f5) (.a), .a, .v (vOf f5) (.a)])) (.a))) (.i (.s (.a) (.s (.k (.r [.a, .a, .a, .a, .a, .a, .v (vOf f6) (.a), .a, .v (vOf f6) (.a)])) (.a))) (.i (.s (.a) (.s (.k (.r [.a, .a, .a, .a, .a, .a, .v (vOf f7) (.a), .a, .v (vOf f7) (.a)])) (.a))) (.i (.s (.a) (.s (.k (.r [.a, .a, .a, .a, .a, .a, .v (vOf f8) (.a), .a, .v (vOf f8) (.a)])) (.a))) (.i (.s (.a) (.s (.k (.r [.a, .a, .a, .a, .a, .a, .v (vOf f9) (.a), .a, .v (vOf f9) (.a)])) (.a))) (.i (.s (.a) (.s (.k (.r [.a, .a, .a, .a, .a, .a, .v (vOf f10) (.a), .a, .v (vOf f10) (.a)])) (.a))) (.i (.s (.a) (.s (.k (.r [.a, .a, .a, .a, .a, .a, .v (vOf f11) (.a), .a, .v (vOf f11) (.a)])) (.a))) (.a)))))))))))) (.s (.r [.a, .a, .a, .v (vOf f12) (.a)]) (.s (.r [.a, .a, .a, .x 2 (vOf f17) (.x 0 (vOf f16) (.v (vOf f15) (.q)))]) (.s (.s (.d [.y 53 (vOf f18), .x 3 (vOf f19), .x 1 (vOf f20)] [.a, .a, .a, .a, .a, .a, .a, .a, .a, .a, .v (vOf f21) (.a), .a] [] [.fr .q [.x 1 (vOf f23)] (rOf f24)]) (.a)) (.s (.a) (.s (.r [.a, .a, .a, .x 5 (vOf f27) (.v (vOf f26) (.q))]) (.s (.r [.a, .a, .a, .a, .a, .x 5 (vOf f30) (.v (vOf f29) (.q))]) (.a)))))))))))) [] .q (by kernel_rfl)
theorem value_okO (n : Nat) (at_ tn : Int) (w : List Int) (lo : Bool) (rm : Int) (m : List (Int × List Int)) (p : List (Int × Option (List Int))) (hw : w.length ≤ 1000) : lrun Try.prog C0 (lcall Try.prog C0 (n + 60)) (n + 60) 16 [.ptr 0 0] ⟨2, [(0, sO at_ tn (vO w) lo), (1, dO rm m p)]⟩ =
    some (.isl 1 (bys w), ⟨2, [(0, sO at_ tn (vO w) lo), (1, dO rm m p)]⟩) := by
  have f1 : 0 ≤ (↑(List.length (bys w)) : Int) ∧ (↑(List.length (bys w)) : Int) ≤ (↑(List.length (bys w)) : Int) ∧ 1 * (↑(List.length (bys w)) : Int) ≤ 281474976710656 := by (simp [-List.reduceReplicate]; omega)
  have f2 : LV.sl 1 3 0 (Int.toNat (↑(List.length (bys w)) : Int)) none = LV.sl 1 3 0 (List.length w) none := by simp
  have f3 : LObj.row 5 1 (List.replicate (Int.toNat (↑(List.length (bys w)) : Int)) (LV.int IntKind.u8 0)) = LObj.row 5 1 (bys (List.replicate (List.length w) 0)) := by simp
  have f4 : LObj.box 84 [LV.ptr 1 0, LV.int IntKind.i64 at_, LV.int IntKind.i64 tn, LV.sl 1 2 0 (List.length (bys w)) none, LV.bool lo] = LObj.box 84 [LV.ptr 1 0, LV.int IntKind.i64 at_, LV.int IntKind.i64 tn, LV.sl 1 2 0 (List.length w) none, LV.bool lo] := by simp
  have f5 : 0 + List.length w ≤ List.length (bys w) := by simp
  have f6 : 0 + List.length w ≤ List.length (bys (List.replicate (List.length w) 0)) := by simp
  have f7 : LV.int IntKind.i64 (↑(min (List.length (List.take (List.length w) (List.drop 0 (bys w)))) (List.length w)) : Int) = LV.int IntKind.i64 (↑(List.length w) : Int) := by simp
  have f8 : LObj.row 5 1 (lsplice (bys (List.replicate (List.length w) 0)) 0 (List.take (min (List.length (List.take (List.length w) (List.drop 0 (bys w)))) (List.length w)) (List.take (List.length w) (List.drop 0 (bys w))))) = LObj.row 5 1 (bys w) := by simp
  have f9 : (if 3 = 3 then if 1 = 1 ∧ 0 + List.length w ≤ List.length (bys w) ∧ capLe (List.length w) none = true then LV.isl 1 (List.take (List.length w) (List.drop 0 (bys w))) else LV.any else LV.sl 1 3 0 (List.length w) none) = LV.isl 1 (bys w) := by simp
  have f10 : List.length (bys w) = List.length w := by simp
  exact drun_ok (fun h => And.intro (f1) <| And.intro (f2) <| And.intro (congrArg some f3) <| And.intro (congrArg some f4) <| And.intro (f5) <| And.intro (f6) <| And.intro (f7) <| And.intro (congrArg some f8) <| And.intro (f9) <| And.intro (f10) <| h) (.s (.a) (.s (.r [.a, .a, .a, .a, .a, .x 0 (vOf f4) (.x 3 (vOf f3) (.v (vOf f2) (.q)))]) (.s (.r [.a, .a, .a, .a, .a, .x 3 (vOf f8) (.v (vOf f7) (.q))]) (.a)))) [.y 0 (vOf f9)] .q (by kernel_rfl)
theorem turn_okO (n : Nat) (at_ tn : Int) (w : List Int) (lo : Bool) (rm : Int) (m : List (Int × List Int)) (p : List (Int × Option (List Int))) : lrun Try.prog C0 (lcall Try.prog C0 (n + 60)) (n + 60) 17 [.ptr 0 0] ⟨2, [(0, sO at_ tn (vO w) lo), (1, dO rm m p)]⟩ =
    some (.int .i64 tn, ⟨2, [(0, sO at_ tn (vO w) lo), (1, dO rm m p)]⟩) := by
  exact drun_ok (fun h => h) (.a) [] .a (by kernel_rfl)
theorem value_okI (n : Nat) (at_ tn : Int) (w : List Int) (lo : Bool) (rm : Int) (m : List (Int × List Int)) (p : List (Int × Option (List Int))) (hw : w.length ≤ 1000) : lrun Try.prog C0 (lcall Try.prog C0 (n + 60)) (n + 60) 16 [.ptr 0 0] ⟨2, [(0, sO at_ tn (vI w) lo), (1, dO rm m p)]⟩ =
    some (.isl 1 (bys w), ⟨2, [(0, sO at_ tn (vI w) lo), (1, dO rm m p)]⟩) := by
  have f1 : 0 ≤ (↑(List.length (bys w)) : Int) ∧ (↑(List.length (bys w)) : Int) ≤ (↑(List.length (bys w)) : Int) ∧ 1 * (↑(List.length (bys w)) : Int) ≤ 281474976710656 := by (simp [-List.reduceReplicate]; omega)
  have f2 : LV.sl 1 2 0 (Int.toNat (↑(List.length (bys w)) : Int)) none = LV.sl 1 2 0 (List.length w) none := by simp
  have f3 : LObj.row 5 1 (List.replicate (Int.toNat (↑(List.length (bys w)) : Int)) (LV.int IntKind.u8 0)) = LObj.row 5 1 (bys (List.replicate (List.length w) 0)) := by simp
  have f4 : okElems true 1 (sealL (bys w)) = true := by simp
  have f5 : 0 + List.length w ≤ List.length (bys (List.replicate (List.length w) 0)) := by simp
  have f6 : LV.int IntKind.i64 (↑(min (List.length (sealL (bys w))) (List.length w)) : Int) = LV.int IntKind.i64 (↑(List.length w) : Int) := by simp
  have f7 : LObj.row 5 1 (lsplice (bys (List.replicate (List.length w) 0)) 0 (List.take (min (List.length (sealL (bys w))) (List.length w)) (sealL (bys w)))) = LObj.row 5 1 (bys w) := by simp
  have f8 : (if 2 = 2 then if 1 = 1 ∧ 0 + List.length w ≤ List.length (bys w) ∧ capLe (List.length w) none = true then LV.isl 1 (List.take (List.length w) (List.drop 0 (bys w))) else LV.any else LV.sl 1 2 0 (List.length w) none) = LV.isl 1 (bys w) := by simp
  exact drun_ok (fun h => And.intro (f1) <| And.intro (f2) <| And.intro (congrArg some f3) <| And.intro (f4) <| And.intro (f5) <| And.intro (f6) <| And.intro (congrArg some f7) <| And.intro (f8) <| h) (.s (.a) (.s (.r [.a, .a, .a, .a, .a, .x 2 (vOf f3) (.v (vOf f2) (.q))]) (.s (.r [.a, .a, .a, .a, .a, .x 2 (vOf f7) (.v (vOf f6) (.q))]) (.a)))) [.y 0 (vOf f8)] .a (by kernel_rfl)
theorem turn_okI (n : Nat) (at_ tn : Int) (w : List Int) (lo : Bool) (rm : Int) (m : List (Int × List Int)) (p : List (Int × Option (List Int))) : lrun Try.prog C0 (lcall Try.prog C0 (n + 60)) (n + 60) 17 [.ptr 0 0] ⟨2, [(0, sO at_ tn (vI w) lo), (1, dO rm m p)]⟩ =
    some (.int .i64 tn, ⟨2, [(0, sO at_ tn (vI w) lo), (1, dO rm m p)]⟩) := by
  exact drun_ok (fun h => h) (.a) [] .a (by kernel_rfl)
end Go.Mac

namespace Go.Mac
open Go Go.Eng Go.Proofs
set_option linter.unusedVariables false
set_option maxHeartbeats 0
set_option maxRecDepth 100000
theorem clone_ok (n : Nat) (m : List (Int × List Int)) : lrun Try.prog C0 (lcall Try.prog C0 (n + 5)) (n + 5) 39 [.map 0] ⟨1, [(0, .map .i64 (mapE m))]⟩ = some (.map 1, ⟨2, [(0, .map .i64 (mapE m)), (1, .map .i64 (mapE m))]⟩) := by
  exact drun_ok (fun h => h) (.a) [] .a (by kernel_rfl)
abbrev aE (p : List (Int × Option (List Int))) (i : Int) : LEnv := [LV.any, LV.any, LV.any, LV.map 3, LV.any, LV.any, LV.any, LV.any, LV.any, LV.any, LV.any, LV.any, LV.any, LV.any,
    LV.sl 2 2 0 p.length none, LV.int IntKind.i64 p.length, LV.int IntKind.i64 i, LV.any, LV.any, LV.any,
    LV.any, LV.any, LV.any, LV.any, LV.any]
abbrev aS (rm : Int) (m : List (Int × List Int)) (p : List (Int × Option (List Int))) (w : List (Int × LV)) : St := ⟨4, [(0, LObj.box 77 [LV.int IntKind.i64 rm, LV.map 1, LV.sl 2 2 0 p.length none]),
        (1, LObj.map IntKind.i64 (mapE m)), (2, LObj.row 88 2 (pnds p)),
        (3, LObj.map IntKind.i64 w)]⟩
abbrev aX (p : List (Int × Option (List Int))) (i : Int) : LEnv := [LV.any, LV.any, LV.any, LV.map 3, LV.any, LV.any, LV.any, LV.any, LV.any, LV.any, LV.any, LV.any, LV.any, LV.any,
    LV.sl 2 2 0 p.length none, LV.int IntKind.i64 p.length, LV.int IntKind.i64 i, LV.bool (decide (i < p.length)), LV.any, LV.any,
    LV.any, LV.any, LV.any, LV.any, LV.any]
theorem after_end (n fu : Nat) (rm : Int) (m : List (Int × List Int)) (p : List (Int × Option (List Int))) (w : List (Int × LV)) (i : Int) (hi : p.length ≤ i) : loopAt Try.prog C0 (n + 40) 47 0 1 (fu + 1) (aE p i) (aS rm m p w) = some (.exit 0, aX p i, aS rm m p w) := by
  have f1 : decide (i < (↑(List.length p) : Int)) = false := by (simp [-List.reduceReplicate]; omega)
  exact dloop_ok (fun h => And.intro (congrArg LV.bool f1) <| h) (.i (.s (.a) (.s (.b false (.a)) .a)) (.a)) (by kernel_rfl)
theorem after_some (n fu : Nat) (rm : Int) (m : List (Int × List Int)) (p : List (Int × Option (List Int))) (w : List (Int × LV)) (i : Int) (h0 : 0 ≤ i) (hi : i < p.length) (hp : p.length ≤ 100000) (a : Int) (b : List Int) (hb : b ≠ []) (hx : (pnds p)[i.toNat]? = some (.agg [.int .i64 a, .isl 1 (bys b)]))
   (r : LX × LEnv × St) (hr : loopAt Try.prog C0 (n + 40) 47 0 1 fu (aE p (i + 1)) (aS rm m p (kput w a (.isl 1 (bys b)))) = some r) : loopAt Try.prog C0 (n + 40) 47 0 1 (fu + 1) (aE p i) (aS rm m p w) = some r := by
  have f1 : decide (i < (↑(List.length p) : Int)) = true := by (simp [-List.reduceReplicate]; omega)
  have f2 : 0 ≤ i ∧ i < (↑(List.length p) : Int) := by omega
  have f3 : LV.pel 2 2 (0 + Int.toNat i) 0 = LV.pel 2 2 (Int.toNat i) 0 := by simp
  have f4 : (pnds p)[Int.toNat i]? = some (LV.agg [LV.int IntKind.i64 a, LV.isl 1 (bys b)]) := hx
  have f5 := bput_some (n + 29) a b w hb
  have f6 : LV.int IntKind.i64 (IntKind.wrap IntKind.i64 (i + 1)) = LV.int IntKind.i64 (i + 1) := by simp (disch := omega) [-List.reduceReplicate]
  have f7 := hr
  exact dloop_ok (fun h => And.intro (congrArg LV.bool f1) <| And.intro (f2) <| And.intro (f3) <| And.intro (f4) <| And.intro (f5) <| And.intro (f6) <| And.intro (Eq.refl (tidyOf f7)) <| And.intro (f7) <| h) (.i (.s (.a) (.s (.b true (.a)) (.s (.k (.s (.r [.v (vOf f3) (.q), .e (rOf f4)]) (.r [.a, .a, .f (rOf f5)]))) (.r [.v (vOf f6) (.a)])))) (.h [] (eOf f7) (stOf f7) (rOf f7))) (by kernel_rfl)
theorem after_none (n fu : Nat) (rm : Int) (m : List (Int × List Int)) (p : List (Int × Option (List Int))) (w : List (Int × LV)) (i : Int) (h0 : 0 ≤ i) (hi : i < p.length) (hp : p.length ≤ 100000) (a : Int) (hx : (pnds p)[i.toNat]? = some (.agg [.int .i64 a, .nils]))
   (r : LX × LEnv × St) (hr : loopAt Try.prog C0 (n + 40) 47 0 1 fu (aE p (i + 1)) (aS rm m p (kdel w a)) = some r) : loopAt Try.prog C0 (n + 40) 47 0 1 (fu + 1) (aE p i) (aS rm m p w) = some r := by
  have f1 : decide (i < (↑(List.length p) : Int)) = true := by (simp [-List.reduceReplicate]; omega)
  have f2 : 0 ≤ i ∧ i < (↑(List.length p) : Int) := by omega
  have f3 : LV.pel 2 2 (0 + Int.toNat i) 0 = LV.pel 2 2 (Int.toNat i) 0 := by simp
  have f4 : (pnds p)[Int.toNat i]? = some (LV.agg [LV.int IntKind.i64 a, LV.nils]) := hx
  have f5 := bput_none (n + 29) a w
  have f6 : LV.int IntKind.i64 (IntKind.wrap IntKind.i64 (i + 1)) = LV.int IntKind.i64 (i + 1) := by simp (disch := omega) [-List.reduceReplicate]
  have f7 := hr
  exact dloop_ok (fun h => And.intro (congrArg LV.bool f1) <| And.intro (f2) <| And.intro (f3) <| And.intro (f4) <| And.intro (f5) <| And.intro (f6) <| And.intro (Eq.refl (tidyOf f7)) <| And.intro (f7) <| h) (.i (.s (.a) (.s (.b true (.a)) (.s (.k (.s (.r [.v (vOf f3) (.q), .e (rOf f4)]) (.r [.a, .a, .f (rOf f5)]))) (.r [.v (vOf f6) (.a)])))) (.h [] (eOf f7) (stOf f7) (rOf f7))) (by kernel_rfl)
def applyP : List (Int × Option (List Int)) → List (Int × LV) → List (Int × LV)
  | [], w => w
  | (a, some b) :: q, w => applyP q (kput w a (.isl 1 (bys b)))
  | (a, none) :: q, w => applyP q (kdel w a)
theorem after_loop (n : Nat) (rm : Int) (m : List (Int × List Int)) (p : List (Int × Option (List Int))) (hp : p.length ≤ 100000) (hb : ∀ x ∈ p, ∀ b, x.2 = some b → b ≠ []) : ∀ (q : List (Int × Option (List Int))) (i : Int) (w : List (Int × LV)) (fu : Nat),
    0 ≤ i → p.drop i.toNat = q → q.length < fu → loopAt Try.prog C0 (n + 40) 47 0 1 fu (aE p i) (aS rm m p w) = some (.exit 0, aX p (i + q.length), aS rm m p (applyP q w))
  | [], i, w, fu, h0, hd, hf => by
    obtain ⟨k, rfl⟩ : ∃ k, fu = k + 1 := ⟨fu - 1, by simp at hf; omega⟩
    have : p.length ≤ i.toNat := by simpa using hd
    rw [after_end n k rm m p w i (by omega)]
    simp [applyP]
  | x :: q, i, w, fu, h0, hd, hf => by
    obtain ⟨k, rfl⟩ : ∃ k, fu = k + 1 := ⟨fu - 1, by simp at hf; omega⟩
    have hlt : i.toNat < p.length := by
      apply Classical.byContradiction; intro h
      rw [List.drop_of_length_le (by omega)] at hd; simp at hd
    have hx : p[i.toNat]? = some x := by
      have := congrArg List.head? hd
      simpa [List.head?_drop] using this
    have hd2 : p.drop (i + 1).toNat = q := by
      have e : (i + 1).toNat = i.toNat + 1 := by omega
      rw [e, ← List.drop_drop, hd]; rfl
    have ih := fun w' => after_loop n rm m p hp hb q (i + 1) w' k (by omega) hd2 (by simp at hf; omega)
    have hxl : (pnds p)[i.toNat]? = some (pnd x) := by simp only [pnds, List.getElem?_map, hx, Option.map_some]
    have hlen : i + 1 + (q.length : Int) = i + ((x :: q).length : Int) := by simp; omega
    obtain ⟨a, ob⟩ := x
    cases ob with
    | some b =>
      rw [after_some n k rm m p w i h0 (by omega) hp a b (hb (a, some b) (List.mem_of_getElem? hx) b rfl) hxl _ (ih _), hlen]
      rfl
    | none =>
      rw [after_none n k rm m p w i h0 (by omega) hp a hxl _ (ih _), hlen]
      rfl
def mput : List (Int × List Int) → Int → List Int → List (Int × List Int)
  | [], n, x => [(n, x)]
  | (k, v) :: l, n, x => if k = n then (n, x) :: l else if n < k then (n, x) :: (k, v) :: l else (k, v) :: mput l n x
def mdel : List (Int × List Int) → Int → List (Int × List Int)
  | [], _ => []
  | (k, v) :: l, n => if k = n then l else (k, v) :: mdel l n
theorem after_ok (n : Nat) (rm : Int) (m : List (Int × List Int)) (p : List (Int × Option (List Int))) (hp : p.length ≤ 100000) (hn : p.length ≤ n) (hb : ∀ x ∈ p, ∀ b, x.2 = some b → b ≠ []) :
    lrun Try.prog C0 (lcall Try.prog C0 (n + 40)) (n + 40) 47 [.ptr 0 0] ⟨1, [(0, dO rm m p)]⟩ = some (.map 1, ⟨2, [(0, dO rm m p), (1, .map .i64 (applyP p (mapE m)))]⟩) := by
  have L := after_loop n rm m p hp hb p 0
  have f1 : LObj.map IntKind.i64 (List.zip (mapK m) (mapV m)) = LObj.map IntKind.i64 (mapE m) := by simp
  have f2 := clone_ok (n + 34) m
  have f3 : LV.sl 2 2 0 (List.length (pnds p)) none = LV.sl 2 2 0 (List.length p) none := by simp
  have f4 : LV.int IntKind.i64 (↑(List.length (pnds p)) : Int) = LV.int IntKind.i64 (↑(List.length p) : Int) := by simp
  have f5 : LObj.box 77 [LV.int IntKind.i64 rm, LV.map 1, LV.sl 2 2 0 (List.length (pnds p)) none] = LObj.box 77 [LV.int IntKind.i64 rm, LV.map 1, LV.sl 2 2 0 (List.length p) none] := by simp
  have f6 := L (mapE m) (n + 40) (by omega) (by simp) (by omega)
  have f7 : List.length (pnds p) = List.length p := by simp
  have f8 : (LV.map 1, St.mk 2 [(0, LObj.box 77 [LV.int IntKind.i64 rm, LV.omap IntKind.i64 (List.map (fun x => Prod.fst x) (mapE m)) (List.map (fun x => Prod.snd x) (mapE m)), LV.own 88 2 (pnds p)]), (1, LObj.map IntKind.i64 (applyP p (mapE m)))]) = (LV.map 1, St.mk 2 [(0, dO rm m p), (1, LObj.map IntKind.i64 (applyP p (mapE m)))]) := by simp
  exact drun_ok (fun h => And.intro (congrArg some f1) <| And.intro (f2) <| And.intro (f3) <| And.intro (f4) <| And.intro (congrArg some f5) <| And.intro (Eq.refl (tidyOf f6)) <| And.intro (f6) <| And.intro (f7) <| f8) (.s (.a) (.s (.r [.a, .a, .a, .x 1 (vOf f1) (.a), .f (rOf f2)]) (.s (.s (.a) (.k (.l (.h [.y 14 (vOf f3), .y 15 (vOf f4), .x 0 (vOf f5)] (eOf f6) (stOf f6) (rOf f6))))) (.a)))) [] .q (by kernel_rfl)
theorem dsync_ok (n : Nat) (rm : Int) (m m' : List (Int × List Int)) (p : List (Int × Option (List Int))) (hp : p.length ≤ 100000) (hn : p.length ≤ n) (hb : ∀ x ∈ p, ∀ b, x.2 = some b → b ≠ [])
    (hm : applyP p (mapE m) = mapE m') :
    lrun Try.prog C0 (lcall Try.prog C0 (n + 41)) (n + 41) 22 [.ptr 0 0] ⟨1, [(0, dO rm m p)]⟩ = some (.tup [], ⟨1, [(0, dO rm m' [])]⟩) := by
  have A := after_ok n rm m p hp hn hb
  have f1 := A
  have f2 : (LV.tup [], St.mk 1 [(0, LObj.box 77 [LV.int IntKind.i64 rm, LV.omap IntKind.i64 (List.map (fun x => Prod.fst x) (applyP p (mapE m))) (List.map (fun x => Prod.snd x) (applyP p (mapE m))), LV.own 88 2 []])]) = (LV.tup [], St.mk 1 [(0, dO rm m' [])]) := by simp (disch := omega) [-List.reduceReplicate, hp, hn, hm, A]
  exact drun_ok (fun h => And.intro (f1) <| f2) (.s (.r [.a, .a, .f (rOf f1)]) (.a)) [] .q (by kernel_rfl)
end Go.Mac

namespace Go.Mac
open Go Go.Eng Go.Proofs
set_option linter.unusedVariables false
set_option maxHeartbeats 0
set_option maxRecDepth 100000
def lastW (at_ : Int) : List (Int × Option (List Int)) → Option (Option (List Int))
  | [] => none
  | (a, b) :: l => match lastW at_ l with
    | some x => some x
    | none => if a = at_ then some b else none
def mget : List (Int × List Int) → Int → Option (List Int)
  | [], _ => none
  | (k, v) :: l, n => if k = n then some v else mget l n
/-- What a block reads as. -/
def rd (m : List (Int × List Int)) (p : List (Int × Option (List Int))) (at_ : Int) : List Int :=
  match lastW at_ p with
  | some (some b) => blk b
  | some none => blk []
  | none => match mget m at_ with
    | some b => blk b
    | none => blk []
theorem lastOf_pnds (at_ : Int) : ∀ p, lastOf at_ (pnds p) = (lastW at_ p).map fun o => match o with | some b => LV.isl 1 (bys b) | none => .nils
  | [] => rfl
  | (a, ob) :: p => by
    have ih := lastOf_pnds at_ p
    show lastOf at_ (pnd (a, ob) :: pnds p) = _
    simp only [pnd, lastOf, ih, lastW]
    cases lastW at_ p with
    | some x => rfl
    | none =>
      simp only [Option.map_none]
      split
      · cases ob <;> rfl
      · rfl
theorem kget_mapE (at_ : Int) : ∀ m, kget (mapE m) at_ = (mget m at_).map fun b => LV.isl 1 (bys b)
  | [] => rfl
  | (k, b) :: m => by
    have ih := kget_mapE at_ m
    show kget ((k, .isl 1 (bys b)) :: mapE m) at_ = _
    simp only [kget, mget, ih]
    split <;> rfl
theorem blk_padS (b : List Int) : (b ++ List.replicate 64 0).take 64 = blk b := by
  unfold blk spliceI
  rcases Nat.lt_or_ge b.length 64 with h | h
  · rw [Nat.min_eq_left (by omega), List.take_of_length_le (Nat.le_refl _), List.take_append, List.take_of_length_le (by omega), List.take_replicate, List.take_zero, List.nil_append, Nat.zero_add, List.drop_replicate, Nat.min_eq_left (by omega)]
  · rw [Nat.min_eq_right h, List.take_append_of_le_length h, List.take_zero, List.nil_append, Nat.zero_add, List.length_take, Nat.min_eq_left h, List.drop_replicate]
    simp
theorem pad64_bys (b : List Int) : pad64 (.isl 1 (bys b)) = .isl 1 (bys (blk b)) := by
  rw [← blk_padS]
  simp [pad64, bys]
theorem pad64_nils : pad64 .nils = .isl 1 (bys (blk [])) := by
  rw [← blk_padS]
  simp [pad64, bys]
theorem xRead_ok (rm : Int) (m : List (Int × List Int)) (p : List (Int × Option (List Int))) (at_ : Int) (h0 : 0 ≤ at_) (h1 : at_ ≤ 1073741824) (hp : p.length ≤ 1000000) (ho : okP p) :
    xRead [.ptr 0 0, .int .i64 at_] ⟨1, [(0, dO rm m p)]⟩ = some (.tup [.isl 1 (bys (rd m p at_)), .nili], ⟨1, [(0, dO rm m p)]⟩) := by
  have g1 := okW_pnds ho
  have g2 : (pnds p).length ≤ 1048576 := by simp; omega
  simp only [xRead, St.look, olook, if_true, g1, g2, okBs_mapV, and_self]
  rw [if_neg (by omega), lastOf_pnds, zip_mapKV, kget_mapE]
  unfold rd
  cases lastW at_ p with
  | some o => cases o <;> simp only [Option.map_some, pad64_bys, pad64_nils]
  | none =>
    simp only [Option.map_none]
    cases mget m at_ <;> simp only [Option.map_some, Option.map_none, pad64_bys, pad64_nils]
theorem dread_ok (n : Nat) (rm : Int) (m : List (Int × List Int)) (p : List (Int × Option (List Int))) (at_ : Int) (h0 : 0 ≤ at_) (h1 : at_ ≤ 1073741824) (hp : p.length ≤ 1000000) (ho : okP p) :
    lrun Try.prog C0 (lcall Try.prog C0 n) n 21 [.ptr 0 0, .int .i64 at_] ⟨1, [(0, dO rm m p)]⟩ = some (.tup [.isl 1 (bys (rd m p at_)), .nili], ⟨1, [(0, dO rm m p)]⟩) := by
  have X := xRead_ok rm m p at_ h0 h1 hp ho
  exact x_runx rfl X (by kernel_rfl)
theorem rd_length (m : List (Int × List Int)) (p : List (Int × Option (List Int))) (at_ : Int) : (rd m p at_).length = 64 := by
  unfold rd
  repeat' split
  all_goals simp
theorem ssync_okO (n : Nat) (at_ tn : Int) (w : List Int) (lo : Bool) (rm : Int) (m m' : List (Int × List Int)) (p : List (Int × Option (List Int)))  (hp : p.length ≤ 100000) (hn : p.length ≤ n) (hb : ∀ x ∈ p, ∀ b, x.2 = some b → b ≠ [])
    (hm : applyP p (mapE m) = mapE m') : lrun Try.prog C0 (lcall Try.prog C0 (n + 60)) (n + 60) 14 [.ptr 0 0] ⟨2, [(0, sO at_ tn (vO w) lo), (1, dO rm m p)]⟩ =
    some (.tup [], ⟨2, [(0, sO at_ tn (vO w) false), (1, dO rm m' [])]⟩) := by
  have A := dsync_ok (n + 18) rm m m' p hp (by omega) hb hm
  have f1 := A
  exact drun_ok (fun h => And.intro (f1) <| h) (.s (.r [.a, .a, .a, .a, .f (rOf f1)]) (.a)) [] .a (by kernel_rfl)
theorem ssync_okI (n : Nat) (at_ tn : Int) (w : List Int) (lo : Bool) (rm : Int) (m m' : List (Int × List Int)) (p : List (Int × Option (List Int)))  (hp : p.length ≤ 100000) (hn : p.length ≤ n) (hb : ∀ x ∈ p, ∀ b, x.2 = some b → b ≠ [])
    (hm : applyP p (mapE m) = mapE m') : lrun Try.prog C0 (lcall Try.prog C0 (n + 60)) (n + 60) 14 [.ptr 0 0] ⟨2, [(0, sO at_ tn (vI w) lo), (1, dO rm m p)]⟩ =
    some (.tup [], ⟨2, [(0, sO at_ tn (vI w) false), (1, dO rm m' [])]⟩) := by
  have A := dsync_ok (n + 18) rm m m' p hp (by omega) hb hm
  have f1 := A
  exact drun_ok (fun h => And.intro (f1) <| h) (.s (.r [.a, .a, .a, .a, .f (rOf f1)]) (.a)) [] .a (by kernel_rfl)
/-- What stands in two blocks, of which the reads are told. -/
theorem sopen_two (n : Nat) (rm : Int) (m : List (Int × List Int)) (p : List (Int × Option (List Int))) (hp : p.length ≤ 1000000) (ho : okP p) (at_ : Int) (h0 : 0 ≤ at_) (h1 : at_ ≤ 1000) (t0 t1 : Int) (v0 v1 : List Int)
    (r0 : ∀ k, lrun Try.prog C0 (lcall Try.prog C0 (k + 40)) (k + 40) 38 [.isl 1 (bys (rd m p at_))] ⟨0, []⟩ = some (.agg [.int .i64 t0, .isl 1 (bys v0)], ⟨0, []⟩))
    (r1 : ∀ k, lrun Try.prog C0 (lcall Try.prog C0 (k + 40)) (k + 40) 38 [.isl 1 (bys (rd m p (at_ + 1)))] ⟨0, []⟩ = some (.agg [.int .i64 t1, .isl 1 (bys v1)], ⟨0, []⟩))
    (he0 : t0 % 2 = 0) (he1 : t1 % 2 = 1) (hg0 : 0 < t0) (hg1 : t0 < t1) :
    lrun Try.prog C0 (lcall Try.prog C0 (n + 80)) (n + 80) 12 [.ptr 0 0, .int .i64 at_] ⟨1, [(0, dO rm m p)]⟩ = some (.tup [.ptr 1 0, .nili], ⟨2, [(0, dO rm m p), (1, .box 84 [.ptr 0 0, .int .i64 at_, .int .i64 t1, .isl 1 (bys v1), .bool false])]⟩) := by
  have f1 : LV.int IntKind.i64 (IntKind.wrap IntKind.i64 (at_ + 0)) = LV.int IntKind.i64 at_ := by simp (disch := omega) [-List.reduceReplicate, rd_length]
  have f2 := dread_ok (n + 79) rm m p at_ h0 (by omega) hp ho
  have f3 := r0 (n + 39)
  have f4 : LV.int IntKind.i64 (IntKind.wrap IntKind.i64 (at_ + 1)) = LV.int IntKind.i64 (at_ + 1) := by simp (disch := omega) [-List.reduceReplicate, rd_length]
  have f5 := dread_ok (n + 79) rm m p (at_ + 1) (by omega) (by omega) hp ho
  have f6 := r1 (n + 39)
  have f7 : LObj.map IntKind.i64 (List.zip (mapK m) (mapV m)) = LObj.map IntKind.i64 (mapE m) := by simp
  have f8 : LObj.box 77 [LV.int IntKind.i64 rm, LV.map 3, LV.sl 2 4 0 (List.length (pnds p)) none] = LObj.box 77 [LV.int IntKind.i64 rm, LV.map 3, LV.sl 2 4 0 (List.length p) none] := by simp
  have f9 : decide (Int.tmod t0 2 = 0) = true := by (simp (disch := first | omega | (simp; omega)) [-List.reduceReplicate, rd_length]; omega)
  have f10 : LV.bool (if decide (Int.tmod t0 2 = 0) = true then decide (0 < t0) else false) = LV.bool true := by (simp (disch := first | omega | (simp; omega)) [-List.reduceReplicate, rd_length]; omega)
  have f11 : LV.eqb (LV.isl 1 (bys v0)) (LV.isl 1 (bys v0)) = true := by simp
  have f12 : decide (Int.tmod t1 2 = 1) = true := by (simp (disch := first | omega | (simp; omega)) [-List.reduceReplicate, rd_length]; omega)
  have f13 : LV.bool (if decide (Int.tmod t1 2 = 1) = true then decide (t0 < t1) else false) = LV.bool true := by (simp (disch := first | omega | (simp; omega)) [-List.reduceReplicate, rd_length]; omega)
  have f14 : LV.eqb (LV.isl 1 (bys v1)) (LV.isl 1 (bys v1)) = true := by simp
  have f15 : List.length (pnds p) = List.length p := by simp
  have f16 : (LV.tup [LV.ptr 1 0, LV.nili], St.mk 2 [(0, LObj.box 77 [LV.int IntKind.i64 rm, LV.omap IntKind.i64 (List.map (fun x => Prod.fst x) (mapE m)) (List.map (fun x => Prod.snd x) (mapE m)), LV.own 88 2 (pnds p)]), (1, LObj.box 84 [LV.ptr 0 0, LV.int IntKind.i64 at_, LV.int IntKind.i64 t1, LV.isl 1 (bys v1), LV.bool false])]) = (LV.tup [LV.ptr 1 0, LV.nili], St.mk 2 [(0, dO rm m p), (1, LObj.box 84 [LV.ptr 0 0, LV.int IntKind.i64 at_, LV.int IntKind.i64 t1, LV.isl 1 (bys v1), LV.bool false])]) := by simp
  exact drun_ok (fun h => And.intro (f1) <| And.intro (f2) <| And.intro (f3) <| And.intro (f4) <| And.intro (f5) <| And.intro (f6) <| And.intro (congrArg some f7) <| And.intro (congrArg some f8) <| And.intro (congrArg some f9) <| And.intro (congrArg some f9) <| And.intro (congrArg some f9) <| And.intro (congrArg some f9) <| And.intro (congrArg some f9) <| And.intro (congrArg some f9) <| And.intro (congrArg some f9) <| And.intro (f10) <| And.intro (f11) <| And.intro (f11) <| And.intro (congrArg some f12) <| And.intro (congrArg some f12) <| And.intro (congrArg some f12) <| And.intro (congrArg some f12) <| And.intro (congrArg some f12) <| And.intro (congrArg some f12) <| And.intro (congrArg some f12) <| And.intro (f13) <| And.intro (f14) <| And.intro (f14) <| And.intro (f15) <| f16) (.s (.a) (.s (.a) (.s (.a) (.s (.s (.a) (.k (.l (.i (.s (.a) (.s (.a) (.s (.k (.s (.a) (.s (.r [.a, .a, .a, .v (vOf f1) (.a), .f (rOf f2)]) (.s (.a) (.r [.a, .a, .f (rOf f3)]))))) (.a)))) (.i (.s (.a) (.s (.a) (.s (.k (.s (.a) (.s (.r [.a, .a, .a, .v (vOf f4) (.a), .f (rOf f5)]) (.s (.a) (.r [.a, .a, .f (rOf f6)]))))) (.a)))) (.a)))))) (.s (.a) (.s (.s (.a) (.k (.l (.i (.s (.a) (.s (.a) (.s (.k (.s (.a) (.s (.d [.x 3 (vOf f7), .x 0 (vOf f8)] [.a, .a, .a, .a, .a, .a, .g true (.a), .g true (.a), .g true (.a), .g true (.a), .g true (.a), .g true (.a)] [] [.g true (.a), .v (vOf f10) (.a)]) (.c (.d [] [.a, .a, .a, .a, .a, .a, .a, .a, .a] [(true, .a), (true, .a)] []))))) (.a)))) (.i (.s (.a) (.s (.a) (.s (.k (.s (.a) (.s (.d [] [.a, .a, .a, .a, .a, .a, .g true (.a), .g true (.a), .g true (.a), .g true (.a), .g true (.a), .g true (.a)] [] [.g true (.a), .v (vOf f13) (.a)]) (.c (.d [] [.a, .a, .a, .a, .a, .a, .a, .a, .a] [(true, .a), (true, .a)] []))))) (.a)))) (.a)))))) (.a))))))) [] .q (by kernel_rfl)
theorem sopen_even (n : Nat) (rm : Int) (m : List (Int × List Int)) (p : List (Int × Option (List Int))) (hp : p.length ≤ 1000000) (ho : okP p) (at_ : Int) (h0 : 0 ≤ at_) (h1 : at_ ≤ 1000) (t0 t1 : Int) (v0 v1 : List Int)
    (r0 : ∀ k, lrun Try.prog C0 (lcall Try.prog C0 (k + 40)) (k + 40) 38 [.isl 1 (bys (rd m p at_))] ⟨0, []⟩ = some (.agg [.int .i64 t0, .isl 1 (bys v0)], ⟨0, []⟩))
    (r1 : ∀ k, lrun Try.prog C0 (lcall Try.prog C0 (k + 40)) (k + 40) 38 [.isl 1 (bys (rd m p (at_ + 1)))] ⟨0, []⟩ = some (.agg [.int .i64 t1, .isl 1 (bys v1)], ⟨0, []⟩))
    (he0 : t0 % 2 = 0) (hp1 : 0 ≤ t1) (hg0 : 0 < t0) (hg1 : t1 < t0) :
    lrun Try.prog C0 (lcall Try.prog C0 (n + 80)) (n + 80) 12 [.ptr 0 0, .int .i64 at_] ⟨1, [(0, dO rm m p)]⟩ = some (.tup [.ptr 1 0, .nili], ⟨2, [(0, dO rm m p), (1, .box 84 [.ptr 0 0, .int .i64 at_, .int .i64 t0, .isl 1 (bys v0), .bool false])]⟩) := by
  by_cases he1 : t1 % 2 = 1
  · have f1 : LV.int IntKind.i64 (IntKind.wrap IntKind.i64 (at_ + 0)) = LV.int IntKind.i64 at_ := by simp (disch := omega) [-List.reduceReplicate, rd_length]
    have f2 := dread_ok (n + 79) rm m p at_ h0 (by omega) hp ho
    have f3 := r0 (n + 39)
    have f4 : LV.int IntKind.i64 (IntKind.wrap IntKind.i64 (at_ + 1)) = LV.int IntKind.i64 (at_ + 1) := by simp (disch := omega) [-List.reduceReplicate, rd_length]
    have f5 := dread_ok (n + 79) rm m p (at_ + 1) (by omega) (by omega) hp ho
    have f6 := r1 (n + 39)
    have f7 : LObj.map IntKind.i64 (List.zip (mapK m) (mapV m)) = LObj.map IntKind.i64 (mapE m) := by simp
    have f8 : LObj.box 77 [LV.int IntKind.i64 rm, LV.map 3, LV.sl 2 4 0 (List.length (pnds p)) none] = LObj.box 77 [LV.int IntKind.i64 rm, LV.map 3, LV.sl 2 4 0 (List.length p) none] := by simp
    have f9 : decide (Int.tmod t0 2 = 0) = true := by (simp (disch := first | omega | (simp; omega)) [-List.reduceReplicate, rd_length]; omega)
    have f10 : LV.bool (if decide (Int.tmod t0 2 = 0) = true then decide (0 < t0) else false) = LV.bool true := by (simp (disch := first | omega | (simp; omega)) [-List.reduceReplicate, rd_length]; omega)
    have f11 : LV.eqb (LV.isl 1 (bys v0)) (LV.isl 1 (bys v0)) = true := by simp
    have f12 : decide (Int.tmod t1 2 = 1) = true := by (simp (disch := first | omega | (simp; omega)) [-List.reduceReplicate, rd_length]; omega)
    have f13 : LV.bool (if decide (Int.tmod t1 2 = 1) = true then decide (t0 < t1) else false) = LV.bool false := by (simp [-List.reduceReplicate, rd_length]; omega)
    have f14 : List.length (pnds p) = List.length p := by simp
    have f15 : (LV.tup [LV.ptr 1 0, LV.nili], St.mk 2 [(0, LObj.box 77 [LV.int IntKind.i64 rm, LV.omap IntKind.i64 (List.map (fun x => Prod.fst x) (mapE m)) (List.map (fun x => Prod.snd x) (mapE m)), LV.own 88 2 (pnds p)]), (1, LObj.box 84 [LV.ptr 0 0, LV.int IntKind.i64 at_, LV.int IntKind.i64 t0, LV.isl 1 (bys v0), LV.bool false])]) = (LV.tup [LV.ptr 1 0, LV.nili], St.mk 2 [(0, dO rm m p), (1, LObj.box 84 [LV.ptr 0 0, LV.int IntKind.i64 at_, LV.int IntKind.i64 t0, LV.isl 1 (bys v0), LV.bool false])]) := by simp
    exact drun_ok (fun h => And.intro (f1) <| And.intro (f2) <| And.intro (f3) <| And.intro (f4) <| And.intro (f5) <| And.intro (f6) <| And.intro (congrArg some f7) <| And.intro (congrArg some f8) <| And.intro (congrArg some f9) <| And.intro (congrArg some f9) <| And.intro (congrArg some f9) <| And.intro (congrArg some f9) <| And.intro (congrArg some f9) <| And.intro (congrArg some f9) <| And.intro (congrArg some f9) <| And.intro (f10) <| And.intro (f11) <| And.intro (f11) <| And.intro (congrArg some f12) <| And.intro (congrArg some f12) <| And.intro (congrArg some f12) <| And.intro (congrArg some f12) <| And.intro (congrArg some f12) <| And.intro (congrArg some f12) <| And.intro (congrArg some f12) <| And.intro (f13) <| And.intro (f14) <| f15) (.s (.a) (.s (.a) (.s (.a) (.s (.s (.a) (.k (.l (.i (.s (.a) (.s (.a) (.s (.k (.s (.a) (.s (.r [.a, .a, .a, .v (vOf f1) (.a), .f (rOf f2)]) (.s (.a) (.r [.a, .a, .f (rOf f3)]))))) (.a)))) (.i (.s (.a) (.s (.a) (.s (.k (.s (.a) (.s (.r [.a, .a, .a, .v (vOf f4) (.a), .f (rOf f5)]) (.s (.a) (.r [.a, .a, .f (rOf f6)]))))) (.a)))) (.a)))))) (.s (.a) (.s (.s (.a) (.k (.l (.i (.s (.a) (.s (.a) (.s (.k (.s (.a) (.s (.d [.x 3 (vOf f7), .x 0 (vOf f8)] [.a, .a, .a, .a, .a, .a, .g true (.a), .g true (.a), .g true (.a), .g true (.a), .g true (.a), .g true (.a)] [] [.g true (.a), .v (vOf f10) (.a)]) (.c (.d [] [.a, .a, .a, .a, .a, .a, .a, .a, .a] [(true, .a), (true, .a)] []))))) (.a)))) (.i (.s (.a) (.s (.a) (.s (.k (.s (.a) (.s (.d [] [.a, .a, .a, .a, .a, .a, .g true (.a), .g true (.a), .g true (.a), .g true (.a), .g true (.a), .g true (.a)] [] [.g true (.a), .v (vOf f13) (.a)]) (.a)))) (.a)))) (.a)))))) (.a))))))) [] .q (by kernel_rfl)
  · have f1 : LV.int IntKind.i64 (IntKind.wrap IntKind.i64 (at_ + 0)) = LV.int IntKind.i64 at_ := by simp (disch := omega) [-List.reduceReplicate, rd_length]
    have f2 := dread_ok (n + 79) rm m p at_ h0 (by omega) hp ho
    have f3 := r0 (n + 39)
    have f4 : LV.int IntKind.i64 (IntKind.wrap IntKind.i64 (at_ + 1)) = LV.int IntKind.i64 (at_ + 1) := by simp (disch := omega) [-List.reduceReplicate, rd_length]
    have f5 := dread_ok (n + 79) rm m p (at_ + 1) (by omega) (by omega) hp ho
    have f6 := r1 (n + 39)
    have f7 : LObj.map IntKind.i64 (List.zip (mapK m) (mapV m)) = LObj.map IntKind.i64 (mapE m) := by simp
    have f8 : LObj.box 77 [LV.int IntKind.i64 rm, LV.map 3, LV.sl 2 4 0 (List.length (pnds p)) none] = LObj.box 77 [LV.int IntKind.i64 rm, LV.map 3, LV.sl 2 4 0 (List.length p) none] := by simp
    have f9 : decide (Int.tmod t0 2 = 0) = true := by (simp (disch := first | omega | (simp; omega)) [-List.reduceReplicate, rd_length]; omega)
    have f10 : LV.bool (if decide (Int.tmod t0 2 = 0) = true then decide (0 < t0) else false) = LV.bool true := by (simp (disch := first | omega | (simp; omega)) [-List.reduceReplicate, rd_length]; omega)
    have f11 : LV.eqb (LV.isl 1 (bys v0)) (LV.isl 1 (bys v0)) = true := by simp
    have f12 : decide (Int.tmod t1 2 = 1) = false := by (simp (disch := first | omega | (simp; omega)) [-List.reduceReplicate, rd_length]; omega)
    have f13 : lpick (decide (Int.tmod t1 2 = 1)) LV.any (LV.bool false) = some (LV.bool false) := by simp (disch := first | omega | (simp; omega)) [-List.reduceReplicate, rd_length, if_pos, if_neg]
    have f14 : List.length (pnds p) = List.length p := by simp
    have f15 : (LV.tup [LV.ptr 1 0, LV.nili], St.mk 2 [(0, LObj.box 77 [LV.int IntKind.i64 rm, LV.omap IntKind.i64 (List.map (fun x => Prod.fst x) (mapE m)) (List.map (fun x => Prod.snd x) (mapE m)), LV.own 88 2 (pnds p)]), (1, LObj.box 84 [LV.ptr 0 0, LV.int IntKind.i64 at_, LV.int IntKind.i64 t0, LV.isl 1 (bys v0), LV.bool false])]) = (LV.tup [LV.ptr 1 0, LV.nili], St.mk 2 [(0, dO rm m p), (1, LObj.box 84 [LV.ptr 0 0, LV.int IntKind.i64 at_, LV.int IntKind.i64 t0, LV.isl 1 (bys v0), LV.bool false])]) := by simp
    exact drun_ok (fun h => And.intro (f1) <| And.intro (f2) <| And.intro (f3) <| And.intro (f4) <| And.intro (f5) <| And.intro (f6) <| And.intro (congrArg some f7) <| And.intro (congrArg some f8) <| And.intro (congrArg some f9) <| And.intro (congrArg some f9) <| And.intro (congrArg some f9) <| And.intro (congrArg some f9) <| And.intro (congrArg some f9) <| And.intro (congrArg some f9) <| And.intro (congrArg some f9) <| And.intro (f10) <| And.intro (f11) <| And.intro (f11) <| And.intro (congrArg some f12) <| And.intro (congrArg some f12) <| And.intro (congrArg some f12) <| And.intro (congrArg some f12) <| And.intro (congrArg some f12) <| And.intro (congrArg some f12) <| And.intro (congrArg some f12) <| And.intro (x_map (st := (St.mk 5 [(4, LObj.box 79 [LV.int IntKind.i64 t1, LV.isl 1 (bys v1)]), (0, LObj.box 77 [LV.int IntKind.i64 rm, LV.map 1, LV.sl 2 2 0 (List.length p) none]), (1, LObj.map IntKind.i64 (mapE m)), (2, LObj.row 88 2 (pnds p)), (3, LObj.box 84 [LV.ptr 0 0, LV.int IntKind.i64 at_, LV.int IntKind.i64 t0, LV.isl 1 (bys v0), LV.bool false])])) f13) <| And.intro (f14) <| f15) (.s (.a) (.s (.a) (.s (.a) (.s (.s (.a) (.k (.l (.i (.s (.a) (.s (.a) (.s (.k (.s (.a) (.s (.r [.a, .a, .a, .v (vOf f1) (.a), .f (rOf f2)]) (.s (.a) (.r [.a, .a, .f (rOf f3)]))))) (.a)))) (.i (.s (.a) (.s (.a) (.s (.k (.s (.a) (.s (.r [.a, .a, .a, .v (vOf f4) (.a), .f (rOf f5)]) (.s (.a) (.r [.a, .a, .f (rOf f6)]))))) (.a)))) (.a)))))) (.s (.a) (.s (.s (.a) (.k (.l (.i (.s (.a) (.s (.a) (.s (.k (.s (.a) (.s (.d [.x 3 (vOf f7), .x 0 (vOf f8)] [.a, .a, .a, .a, .a, .a, .g true (.a), .g true (.a), .g true (.a), .g true (.a), .g true (.a), .g true (.a)] [] [.g true (.a), .v (vOf f10) (.a)]) (.c (.d [] [.a, .a, .a, .a, .a, .a, .a, .a, .a] [(true, .a), (true, .a)] []))))) (.a)))) (.i (.s (.a) (.s (.a) (.s (.k (.s (.a) (.s (.d [] [.a, .a, .a, .a, .a, .a, .g false (.a), .g false (.a), .g false (.a), .g false (.a), .g false (.a), .g false (.a)] [] [.g false (.a), .t (rOf (x_map (st := (St.mk 5 [(4, LObj.box 79 [LV.int IntKind.i64 t1, LV.isl 1 (bys v1)]), (0, LObj.box 77 [LV.int IntKind.i64 rm, LV.map 1, LV.sl 2 2 0 (List.length p) none]), (1, LObj.map IntKind.i64 (mapE m)), (2, LObj.row 88 2 (pnds p)), (3, LObj.box 84 [LV.ptr 0 0, LV.int IntKind.i64 at_, LV.int IntKind.i64 t0, LV.isl 1 (bys v0), LV.bool false])])) f13))]) (.a)))) (.a)))) (.a)))))) (.a))))))) [] .q (by kernel_rfl)
theorem sopen_odd (n : Nat) (rm : Int) (m : List (Int × List Int)) (p : List (Int × Option (List Int))) (hp : p.length ≤ 1000000) (ho : okP p) (at_ : Int) (h0 : 0 ≤ at_) (h1 : at_ ≤ 1000) (t1 : Int) (v0 v1 : List Int)
    (r0 : ∀ k, lrun Try.prog C0 (lcall Try.prog C0 (k + 40)) (k + 40) 38 [.isl 1 (bys (rd m p at_))] ⟨0, []⟩ = some (.agg [.int .i64 0, .isl 1 (bys v0)], ⟨0, []⟩))
    (r1 : ∀ k, lrun Try.prog C0 (lcall Try.prog C0 (k + 40)) (k + 40) 38 [.isl 1 (bys (rd m p (at_ + 1)))] ⟨0, []⟩ = some (.agg [.int .i64 t1, .isl 1 (bys v1)], ⟨0, []⟩))
    (he1 : t1 % 2 = 1) (hg1 : 0 < t1) :
    lrun Try.prog C0 (lcall Try.prog C0 (n + 80)) (n + 80) 12 [.ptr 0 0, .int .i64 at_] ⟨1, [(0, dO rm m p)]⟩ = some (.tup [.ptr 1 0, .nili], ⟨2, [(0, dO rm m p), (1, .box 84 [.ptr 0 0, .int .i64 at_, .int .i64 t1, .isl 1 (bys v1), .bool false])]⟩) := by
  have f1 : LV.int IntKind.i64 (IntKind.wrap IntKind.i64 (at_ + 0)) = LV.int IntKind.i64 at_ := by simp (disch := omega) [-List.reduceReplicate, rd_length]
  have f2 := dread_ok (n + 79) rm m p at_ h0 (by omega) hp ho
  have f3 := r0 (n + 39)
  have f4 : LV.int IntKind.i64 (IntKind.wrap IntKind.i64 (at_ + 1)) = LV.int IntKind.i64 (at_ + 1) := by simp (disch := omega) [-List.reduceReplicate, rd_length]
  have f5 := dread_ok (n + 79) rm m p (at_ + 1) (by omega) (by omega) hp ho
  have f6 := r1 (n + 39)
  have f7 : LObj.map IntKind.i64 (List.zip (mapK m) (mapV m)) = LObj.map IntKind.i64 (mapE m) := by simp
  have f8 : LObj.box 77 [LV.int IntKind.i64 rm, LV.map 3, LV.sl 2 4 0 (List.length (pnds p)) none] = LObj.box 77 [LV.int IntKind.i64 rm, LV.map 3, LV.sl 2 4 0 (List.length p) none] := by simp
  have f9 : decide (Int.tmod t1 2 = 1) = true := by (simp (disch := first | omega | (simp; omega)) [-List.reduceReplicate, rd_length]; omega)
  have f10 : LV.bool (if decide (Int.tmod t1 2 = 1) = true then decide (0 < t1) else false) = LV.bool true := by (simp (disch := first | omega | (simp; omega)) [-List.reduceReplicate, rd_length]; omega)
  have f11 : LV.eqb (LV.isl 1 (bys v1)) (LV.isl 1 (bys v1)) = true := by simp
  have f12 : List.length (pnds p) = List.length p := by simp
  have f13 : (LV.tup [LV.ptr 1 0, LV.nili], St.mk 2 [(0, LObj.box 77 [LV.int IntKind.i64 rm, LV.omap IntKind.i64 (List.map (fun x => Prod.fst x) (mapE m)) (List.map (fun x => Prod.snd x) (mapE m)), LV.own 88 2 (pnds p)]), (1, LObj.box 84 [LV.ptr 0 0, LV.int IntKind.i64 at_, LV.int IntKind.i64 t1, LV.isl 1 (bys v1), LV.bool false])]) = (LV.tup [LV.ptr 1 0, LV.nili], St.mk 2 [(0, dO rm m p), (1, LObj.box 84 [LV.ptr 0 0, LV.int IntKind.i64 at_, LV.int IntKind.i64 t1, LV.isl 1 (bys v1), LV.bool false])]) := by simp
  exact drun_ok (fun h => And.intro (f1) <| And.intro (f2) <| And.intro (f3) <| And.intro (f4) <| And.intro (f5) <| And.intro (f6) <| And.intro (congrArg some f7) <| And.intro (congrArg some f8) <| And.intro (congrArg some f9) <| And.intro (congrArg some f9) <| And.intro (congrArg some f9) <| And.intro (congrArg some f9) <| And.intro (congrArg some f9) <| And.intro (congrArg some f9) <| And.intro (congrArg some f9) <| And.intro (f10) <| And.intro (f11) <| And.intro (f11) <| And.intro (f12) <| f13) (.s (.a) (.s (.a) (.s (.a) (.s (.s (.a) (.k (.l (.i (.s (.a) (.s (.a) (.s (.k (.s (.a) (.s (.r [.a, .a, .a, .v (vOf f1) (.a), .f (rOf f2)]) (.s (.a) (.r [.a, .a, .f (rOf f3)]))))) (.a)))) (.i (.s (.a) (.s (.a) (.s (.k (.s (.a) (.s (.r [.a, .a, .a, .v (vOf f4) (.a), .f (rOf f5)]) (.s (.a) (.r [.a, .a, .f (rOf f6)]))))) (.a)))) (.a)))))) (.s (.a) (.s (.s (.a) (.k (.l (.i (.s (.a) (.s (.a) (.s (.k (.s (.a) (.s (.d [.x 3 (vOf f7), .x 0 (vOf f8)] [.a, .a, .a, .a, .a, .a, .a, .a, .a, .a, .a, .a] [] []) (.a)))) (.a)))) (.i (.s (.a) (.s (.a) (.s (.k (.s (.a) (.s (.d [] [.a, .a, .a, .a, .a, .a, .g true (.a), .g true (.a), .g true (.a), .g true (.a), .g true (.a), .g true (.a)] [] [.g true (.a), .v (vOf f10) (.a)]) (.c (.d [] [.a, .a, .a, .a, .a, .a, .a, .a, .a] [(true, .a), (true, .a)] []))))) (.a)))) (.a)))))) (.a))))))) [] .q (by kernel_rfl)
theorem sopen_none (n : Nat) (rm : Int) (m : List (Int × List Int)) (p : List (Int × Option (List Int))) (hp : p.length ≤ 1000000) (ho : okP p) (at_ : Int) (h0 : 0 ≤ at_) (h1 : at_ ≤ 1000) (v0 v1 : List Int)
    (r0 : ∀ k, lrun Try.prog C0 (lcall Try.prog C0 (k + 40)) (k + 40) 38 [.isl 1 (bys (rd m p at_))] ⟨0, []⟩ = some (.agg [.int .i64 0, .isl 1 (bys v0)], ⟨0, []⟩))
    (r1 : ∀ k, lrun Try.prog C0 (lcall Try.prog C0 (k + 40)) (k + 40) 38 [.isl 1 (bys (rd m p (at_ + 1)))] ⟨0, []⟩ = some (.agg [.int .i64 0, .isl 1 (bys v1)], ⟨0, []⟩)) :
    lrun Try.prog C0 (lcall Try.prog C0 (n + 80)) (n + 80) 12 [.ptr 0 0, .int .i64 at_] ⟨1, [(0, dO rm m p)]⟩ = some (.tup [.ptr 1 0, .nili], ⟨2, [(0, dO rm m p), (1, .box 84 [.ptr 0 0, .int .i64 at_, .int .i64 0, .own 5 1 [], .bool false])]⟩) := by
  have f1 : LV.int IntKind.i64 (IntKind.wrap IntKind.i64 (at_ + 0)) = LV.int IntKind.i64 at_ := by simp (disch := omega) [-List.reduceReplicate, rd_length]
  have f2 := dread_ok (n + 79) rm m p at_ h0 (by omega) hp ho
  have f3 := r0 (n + 39)
  have f4 : LV.int IntKind.i64 (IntKind.wrap IntKind.i64 (at_ + 1)) = LV.int IntKind.i64 (at_ + 1) := by simp (disch := omega) [-List.reduceReplicate, rd_length]
  have f5 := dread_ok (n + 79) rm m p (at_ + 1) (by omega) (by omega) hp ho
  have f6 := r1 (n + 39)
  have f7 : LObj.map IntKind.i64 (List.zip (mapK m) (mapV m)) = LObj.map IntKind.i64 (mapE m) := by simp
  have f8 : LObj.box 77 [LV.int IntKind.i64 rm, LV.map 3, LV.sl 2 4 0 (List.length (pnds p)) none] = LObj.box 77 [LV.int IntKind.i64 rm, LV.map 3, LV.sl 2 4 0 (List.length p) none] := by simp
  have f9 : List.length (pnds p) = List.length p := by simp
  have f10 : (LV.tup [LV.ptr 1 0, LV.nili], St.mk 2 [(0, LObj.box 77 [LV.int IntKind.i64 rm, LV.omap IntKind.i64 (List.map (fun x => Prod.fst x) (mapE m)) (List.map (fun x => Prod.snd x) (mapE m)), LV.own 88 2 (pnds p)]), (1, LObj.box 84 [LV.ptr 0 0, LV.int IntKind.i64 at_, LV.int IntKind.i64 0, LV.own 5 1 [], LV.bool false])]) = (LV.tup [LV.ptr 1 0, LV.nili], St.mk 2 [(0, dO rm m p), (1, LObj.box 84 [LV.ptr 0 0, LV.int IntKind.i64 at_, LV.int IntKind.i64 0, LV.own 5 1 [], LV.bool false])]) := by simp
  exact drun_ok (fun h => And.intro (f1) <| And.intro (f2) <| And.intro (f3) <| And.intro (f4) <| And.intro (f5) <| And.intro (f6) <| And.intro (congrArg some f7) <| And.intro (congrArg some f8) <| And.intro (f9) <| f10) (.s (.a) (.s (.a) (.s (.a) (.s (.s (.a) (.k (.l (.i (.s (.a) (.s (.a) (.s (.k (.s (.a) (.s (.r [.a, .a, .a, .v (vOf f1) (.a), .f (rOf f2)]) (.s (.a) (.r [.a, .a, .f (rOf f3)]))))) (.a)))) (.i (.s (.a) (.s (.a) (.s (.k (.s (.a) (.s (.r [.a, .a, .a, .v (vOf f4) (.a), .f (rOf f5)]) (.s (.a) (.r [.a, .a, .f (rOf f6)]))))) (.a)))) (.a)))))) (.s (.a) (.s (.s (.a) (.k (.l (.i (.s (.a) (.s (.a) (.s (.k (.s (.a) (.s (.d [.x 3 (vOf f7), .x 0 (vOf f8)] [.a, .a, .a, .a, .a, .a, .a, .a, .a, .a, .a, .a] [] []) (.a)))) (.a)))) (.a))))) (.a))))))) [] .q (by kernel_rfl)
end Go.Mac

namespace Go.Mac
open Go Go.Eng Go.Proofs
set_option linter.unusedVariables false
set_option maxHeartbeats 0
set_option maxRecDepth 100000
def ints (b : List Int) : List LV := b.map (LV.int .i64)
@[simp] theorem ints_length (b : List Int) : (ints b).length = b.length := by simp [ints]
@[simp high] theorem ints_get (b : List Int) (i : Nat) (h : i < b.length) : (ints b)[i]? = some (.int .i64 (atI b i)) := by simp [ints, h, atI]
@[simp] theorem pnds_one (x : Int × Option (List Int)) : pnds [x] = [pnd x] := rfl
@[simp] theorem pnd_some (a : Int) (b : List Int) : pnd (a, some b) = .agg [.int .i64 a, .isl 1 (bys b)] := rfl
theorem crash_nil (n : Nat) (rm : Int) (m : List (Int × List Int)) (ks : List Int) (cut : Int) :
    lrun Try.prog C0 (lcall Try.prog C0 (n + 60)) (n + 60) 15 [.ptr 0 0, .isl 1 (ints ks), .int .i64 cut] ⟨1, [(0, dO rm m [])]⟩ = some (.tup [], ⟨1, [(0, dO rm m [])]⟩) := by
  have f1 : LObj.map IntKind.i64 (List.zip (mapK m) (mapV m)) = LObj.map IntKind.i64 (mapE m) := by simp
  have f2 := clone_ok (n + 54) m
  have f3 : (LV.tup [], St.mk 1 [(0, LObj.box 77 [LV.int IntKind.i64 rm, LV.omap IntKind.i64 (List.map (fun x => Prod.fst x) (mapE m)) (List.map (fun x => Prod.snd x) (mapE m)), LV.own 88 2 []])]) = (LV.tup [], St.mk 1 [(0, dO rm m [])]) := by simp
  exact drun_ok (fun h => And.intro (congrArg some f1) <| And.intro (f2) <| f3) (.s (.a) (.s (.a) (.s (.r [.a, .a, .a, .x 2 (vOf f1) (.a), .f (rOf f2)]) (.a)))) [] .q (by kernel_rfl)
theorem crash_lost0 (n : Nat) (rm : Int) (m : List (Int × List Int)) (a : Int) (b : List Int) (cut : Int) :
    lrun Try.prog C0 (lcall Try.prog C0 (n + 60)) (n + 60) 15 [.ptr 0 0, .isl 1 [], .int .i64 cut] ⟨1, [(0, dO rm m [(a, some b)])]⟩ = some (.tup [], ⟨1, [(0, dO rm m [])]⟩) := by
  have f1 : LObj.map IntKind.i64 (List.zip (mapK m) (mapV m)) = LObj.map IntKind.i64 (mapE m) := by simp
  have f2 : LObj.row 88 2 (pnds [(a, some b)]) = LObj.row 88 2 [LV.agg [LV.int IntKind.i64 a, LV.isl 1 (bys b)]] := by simp
  have f3 := clone_ok (n + 54) m
  have f4 : (LV.tup [], St.mk 1 [(0, LObj.box 77 [LV.int IntKind.i64 rm, LV.omap IntKind.i64 (List.map (fun x => Prod.fst x) (mapE m)) (List.map (fun x => Prod.snd x) (mapE m)), LV.own 88 2 []])]) = (LV.tup [], St.mk 1 [(0, dO rm m [])]) := by simp
  exact drun_ok (fun h => And.intro (congrArg some f1) <| And.intro (congrArg some f2) <| And.intro (f3) <| f4) (.s (.a) (.s (.a) (.s (.r [.a, .a, .a, .x 1 (vOf f2) (.x 2 (vOf f1) (.a)), .f (rOf f3)]) (.a)))) [] .q (by kernel_rfl)
theorem crash_lost1 (n : Nat) (rm : Int) (m : List (Int × List Int)) (a : Int) (b : List Int) (ks : List Int) (hk : 0 < ks.length) (hk2 : atI ks 0 = 0) (cut : Int) :
    lrun Try.prog C0 (lcall Try.prog C0 (n + 60)) (n + 60) 15 [.ptr 0 0, .isl 1 (ints ks), .int .i64 cut] ⟨1, [(0, dO rm m [(a, some b)])]⟩ = some (.tup [], ⟨1, [(0, dO rm m [])]⟩) := by
  have f1 : decide (0 < (↑(List.length (ints ks)) : Int)) = true := by (simp [-List.reduceReplicate]; omega)
  have f2 : (ints ks)[0]? = some (LV.int IntKind.i64 0) := by (simp (disch := first | omega | (simp; omega)) [-List.reduceReplicate]; omega)
  have f3 : (0 : Int) ≤ (0 : Int) ∧ (0 : Int) < (↑(List.length (ints ks)) : Int) := by (simp [-List.reduceReplicate]; omega)
  have f4 : LObj.row 88 2 (pnds [(a, some b)]) = LObj.row 88 2 [LV.agg [LV.int IntKind.i64 a, LV.isl 1 (bys b)]] := by simp
  have f5 : LV.bool (if decide (0 < (↑(List.length (ints ks)) : Int)) = true then false else false) = LV.bool false := by simp
  have f6 : LObj.map IntKind.i64 (List.zip (mapK m) (mapV m)) = LObj.map IntKind.i64 (mapE m) := by simp
  have f7 := clone_ok (n + 54) m
  have f8 : (LV.tup [], St.mk 1 [(0, LObj.box 77 [LV.int IntKind.i64 rm, LV.omap IntKind.i64 (List.map (fun x => Prod.fst x) (mapE m)) (List.map (fun x => Prod.snd x) (mapE m)), LV.own 88 2 []])]) = (LV.tup [], St.mk 1 [(0, dO rm m [])]) := by simp
  exact drun_ok (fun h => And.intro (congrArg some f1) <| And.intro (congrArg some f1) <| And.intro (congrArg some f1) <| And.intro (f3) <| And.intro (f2) <| And.intro (congrArg some f4) <| And.intro (congrArg some f1) <| And.intro (congrArg some f1) <| And.intro (f5) <| And.intro (congrArg some f6) <| And.intro (f7) <| f8) (.s (.a) (.s (.s (.a) (.k (.l (.i (.s (.a) (.s (.a) (.s (.k (.s (.a) (.s (.r [.a, .a, .a, .a, .a, .g true (.a), .g true (.a), .g true (.x 1 (vOf f4) (.e (rOf f2))), .g true (.a), .g true (.a), .v (vOf f5) (.a)]) (.a)))) (.a)))) (.a))))) (.s (.r [.a, .a, .a, .x 2 (vOf f6) (.a), .f (rOf f7)]) (.a)))) [] .q (by kernel_rfl)
theorem crash_kept (n : Nat) (rm : Int) (m m' : List (Int × List Int)) (a : Int) (b : List Int) (hb : b ≠ []) (ks : List Int) (hk : 0 < ks.length) (hk2 : ¬ atI ks 0 = 0) (cut : Int) (hc : cut < 0 ∨ 64 ≤ cut) (hm : kput (mapE m) a (.isl 1 (bys b)) = mapE m') :
    lrun Try.prog C0 (lcall Try.prog C0 (n + 60)) (n + 60) 15 [.ptr 0 0, .isl 1 (ints ks), .int .i64 cut] ⟨1, [(0, dO rm m [(a, some b)])]⟩ = some (.tup [], ⟨1, [(0, dO rm m' [])]⟩) := by
  rcases hc with hc | hc
  · have f1 : decide (0 < (↑(List.length (ints ks)) : Int)) = true := by (simp [-List.reduceReplicate]; omega)
    have f2 : (ints ks)[0]? = some (LV.int IntKind.i64 (atI ks 0)) := by simp (disch := omega) [-List.reduceReplicate]
    have f3 : (0 : Int) ≤ (0 : Int) ∧ (0 : Int) < (↑(List.length (ints ks)) : Int) := by (simp [-List.reduceReplicate]; omega)
    have f4 : LObj.row 88 2 (pnds [(a, some b)]) = LObj.row 88 2 [LV.agg [LV.int IntKind.i64 a, LV.isl 1 (bys b)]] := by simp
    have f5 : LV.bool (if decide (0 < (↑(List.length (ints ks)) : Int)) = true then !decide (atI ks 0 = 0) else false) = LV.bool true := by (simp [-List.reduceReplicate]; omega)
    have f6 : LObj.map IntKind.i64 (List.zip (mapK m) (mapV m)) = LObj.map IntKind.i64 (mapE m) := by simp
    have f7 := clone_ok (n + 54) m
    have f8 : LV.bool (if false = true then true else decide (atI ks 0 = 0)) = LV.bool false := by (simp [-List.reduceReplicate]; omega)
    have f9 : List.isEmpty (bys b) = false := by (simp [-List.reduceReplicate]; omega)
    have f10 : LV.bool (if true = true then decide (0 ≤ cut) else false) = LV.bool false := by (simp [-List.reduceReplicate]; omega)
    have f11 := bput_some (n + 49) a b (mapE m) hb
    have f12 : (LV.tup [], St.mk 1 [(0, LObj.box 77 [LV.int IntKind.i64 rm, LV.omap IntKind.i64 (List.map (fun x => Prod.fst x) (kput (mapE m) a (LV.isl 1 (bys b)))) (List.map (fun x => Prod.snd x) (kput (mapE m) a (LV.isl 1 (bys b)))), LV.own 88 2 []])]) = (LV.tup [], St.mk 1 [(0, dO rm m' [])]) := by simp (disch := omega) [-List.reduceReplicate, hb, hk, hk2, hm, hc]
    exact drun_ok (fun h => And.intro (congrArg some f1) <| And.intro (congrArg some f1) <| And.intro (congrArg some f1) <| And.intro (f3) <| And.intro (f2) <| And.intro (congrArg some f4) <| And.intro (congrArg some f1) <| And.intro (congrArg some f1) <| And.intro (f5) <| And.intro (congrArg some f6) <| And.intro (f7) <| And.intro (f3) <| And.intro (f2) <| And.intro (f8) <| And.intro (f9) <| And.intro (f10) <| And.intro (f11) <| f12) (.s (.a) (.s (.s (.a) (.k (.l (.i (.s (.a) (.s (.a) (.s (.k (.s (.a) (.s (.r [.a, .a, .a, .a, .a, .g true (.a), .g true (.a), .g true (.x 1 (vOf f4) (.e (rOf f2))), .g true (.a), .g true (.a), .v (vOf f5) (.a)]) (.a)))) (.a)))) (.a))))) (.s (.r [.a, .a, .a, .x 2 (vOf f6) (.a), .f (rOf f7)]) (.s (.s (.a) (.k (.l (.i (.s (.a) (.s (.a) (.s (.k (.s (.a) (.s (.s (.r [.a, .a, .a, .a, .a, .a, .e (rOf f2), .a, .a, .v (vOf f8) (.a)]) (.a)) (.s (.s (.r [.a, .a, .a, .a, .a, .a, .q, .a, .a, .a, .a, .v (vOf f10) (.a)]) (.a)) (.r [.a, .a, .f (rOf f11)]))))) (.a)))) (.a))))) (.a))))) [] .q (by kernel_rfl)
  · have f1 : decide (0 < (↑(List.length (ints ks)) : Int)) = true := by (simp [-List.reduceReplicate]; omega)
    have f2 : (ints ks)[0]? = some (LV.int IntKind.i64 (atI ks 0)) := by simp (disch := omega) [-List.reduceReplicate]
    have f3 : (0 : Int) ≤ (0 : Int) ∧ (0 : Int) < (↑(List.length (ints ks)) : Int) := by (simp [-List.reduceReplicate]; omega)
    have f4 : LObj.row 88 2 (pnds [(a, some b)]) = LObj.row 88 2 [LV.agg [LV.int IntKind.i64 a, LV.isl 1 (bys b)]] := by simp
    have f5 : LV.bool (if decide (0 < (↑(List.length (ints ks)) : Int)) = true then !decide (atI ks 0 = 0) else false) = LV.bool true := by (simp [-List.reduceReplicate]; omega)
    have f6 : LObj.map IntKind.i64 (List.zip (mapK m) (mapV m)) = LObj.map IntKind.i64 (mapE m) := by simp
    have f7 := clone_ok (n + 54) m
    have f8 : LV.bool (if false = true then true else decide (atI ks 0 = 0)) = LV.bool false := by (simp [-List.reduceReplicate]; omega)
    have f9 : List.isEmpty (bys b) = false := by (simp [-List.reduceReplicate]; omega)
    have f10 : LV.bool (if true = true then decide (0 ≤ cut) else false) = LV.bool true := by (simp [-List.reduceReplicate]; omega)
    have f11 : LV.bool (if true = true then decide (cut < 64) else false) = LV.bool false := by (simp [-List.reduceReplicate]; omega)
    have f12 := bput_some (n + 49) a b (mapE m) hb
    have f13 : (LV.tup [], St.mk 1 [(0, LObj.box 77 [LV.int IntKind.i64 rm, LV.omap IntKind.i64 (List.map (fun x => Prod.fst x) (kput (mapE m) a (LV.isl 1 (bys b)))) (List.map (fun x => Prod.snd x) (kput (mapE m) a (LV.isl 1 (bys b)))), LV.own 88 2 []])]) = (LV.tup [], St.mk 1 [(0, dO rm m' [])]) := by simp (disch := omega) [-List.reduceReplicate, hb, hk, hk2, hm, hc]
    exact drun_ok (fun h => And.intro (congrArg some f1) <| And.intro (congrArg some f1) <| And.intro (congrArg some f1) <| And.intro (f3) <| And.intro (f2) <| And.intro (congrArg some f4) <| And.intro (congrArg some f1) <| And.intro (congrArg some f1) <| And.intro (f5) <| And.intro (congrArg some f6) <| And.intro (f7) <| And.intro (f3) <| And.intro (f2) <| And.intro (f8) <| And.intro (f9) <| And.intro (f10) <| And.intro (f11) <| And.intro (f12) <| f13) (.s (.a) (.s (.s (.a) (.k (.l (.i (.s (.a) (.s (.a) (.s (.k (.s (.a) (.s (.r [.a, .a, .a, .a, .a, .g true (.a), .g true (.a), .g true (.x 1 (vOf f4) (.e (rOf f2))), .g true (.a), .g true (.a), .v (vOf f5) (.a)]) (.a)))) (.a)))) (.a))))) (.s (.r [.a, .a, .a, .x 2 (vOf f6) (.a), .f (rOf f7)]) (.s (.s (.a) (.k (.l (.i (.s (.a) (.s (.a) (.s (.k (.s (.a) (.s (.s (.r [.a, .a, .a, .a, .a, .a, .e (rOf f2), .a, .a, .v (vOf f8) (.a)]) (.a)) (.s (.s (.r [.a, .a, .a, .a, .a, .a, .q, .a, .a, .a, .a, .v (vOf f10) (.a), .a, .a, .a, .v (vOf f11) (.a)]) (.a)) (.r [.a, .a, .f (rOf f12)]))))) (.a)))) (.a))))) (.a))))) [] .q (by kernel_rfl)
theorem crash_torn (n : Nat) (rm : Int) (m m' : List (Int × List Int)) (a : Int) (b : List Int) (hb : b.length = 64) (ks : List Int) (hk : 0 < ks.length) (hk2 : ¬ atI ks 0 = 0) (cut : Int) (h0 : 0 ≤ cut) (h1 : cut < 64) (c : List Int) (hc : c.length = 64) (hg : kget (mapE m) a = some (.isl 1 (bys c)))
    (hm : kput (mapE m) a (.isl 1 (bys (spliceI (blk c) 0 (b.take cut.toNat)))) = mapE m') :
    lrun Try.prog C0 (lcall Try.prog C0 (n + 60)) (n + 60) 15 [.ptr 0 0, .isl 1 (ints ks), .int .i64 cut] ⟨1, [(0, dO rm m [(a, some b)])]⟩ = some (.tup [], ⟨1, [(0, dO rm m' [])]⟩) := by
  have hb2 : b ≠ [] := by intro h; subst h; simp at hb
  have f1 : decide (0 < (↑(List.length (ints ks)) : Int)) = true := by (simp [-List.reduceReplicate]; omega)
  have f2 : (ints ks)[0]? = some (LV.int IntKind.i64 (atI ks 0)) := by simp (disch := omega) [-List.reduceReplicate]
  have f3 : (0 : Int) ≤ (0 : Int) ∧ (0 : Int) < (↑(List.length (ints ks)) : Int) := by (simp [-List.reduceReplicate]; omega)
  have f4 : LObj.row 88 2 (pnds [(a, some b)]) = LObj.row 88 2 [LV.agg [LV.int IntKind.i64 a, LV.isl 1 (bys b)]] := by simp
  have f5 : LV.bool (if decide (0 < (↑(List.length (ints ks)) : Int)) = true then !decide (atI ks 0 = 0) else false) = LV.bool true := by (simp [-List.reduceReplicate]; omega)
  have f6 : LObj.map IntKind.i64 (List.zip (mapK m) (mapV m)) = LObj.map IntKind.i64 (mapE m) := by simp
  have f7 := clone_ok (n + 54) m
  have f8 : LV.bool (if false = true then true else decide (atI ks 0 = 0)) = LV.bool false := by (simp [-List.reduceReplicate]; omega)
  have f9 : List.isEmpty (bys b) = false := by (simp [-List.reduceReplicate]; omega)
  have f10 : LV.bool (if true = true then decide (0 ≤ cut) else false) = LV.bool true := by (simp [-List.reduceReplicate]; omega)
  have f11 : LV.bool (if true = true then decide (cut < 64) else false) = LV.bool true := by (simp [-List.reduceReplicate]; omega)
  have f12 : kget (mapE m) a = some (LV.isl 1 (bys c)) := hg
  have f13 := whole_ok (n + 50) c
  have f14 : (0 : Int) ≤ (0 : Int) ∧ (0 : Int) ≤ Option.getD (some cut) (↑(List.length (bys b)) : Int) ∧ Option.getD (some cut) (↑(List.length (bys b)) : Int) ≤ (↑(List.length (bys b)) : Int) := by (simp [-List.reduceReplicate]; omega)
  have f15 : LV.isl 1 (List.drop 0 (List.take (Int.toNat (Option.getD (some cut) (↑(List.length (bys b)) : Int))) (bys b))) = LV.isl 1 (bys (List.take (Int.toNat cut) b)) := by simp
  have f16 : okElems true 1 (sealL (bys (List.take (Int.toNat cut) b))) = true := by simp
  have f17 : 64 ≤ List.length (bys (blk c)) := by simp
  have f18 : LV.int IntKind.i64 (↑(min (List.length (sealL (bys (List.take (Int.toNat cut) b)))) 64) : Int) = LV.int IntKind.i64 (max cut 0) := by simp (disch := omega) [-List.reduceReplicate]
  have f19 : LObj.row 5 1 (lsplice (bys (blk c)) 0 (List.take (min (List.length (sealL (bys (List.take (Int.toNat cut) b)))) 64) (sealL (bys (List.take (Int.toNat cut) b))))) = LObj.row 5 1 (bys (spliceI (blk c) 0 (List.take (Int.toNat cut) b))) := by simp (disch := first | omega | (simp; omega)) [-List.reduceReplicate]
  have f20 : LV.agg [LV.int IntKind.i64 a, if 1 = 1 then if 1 = 1 ∧ 0 + 64 ≤ List.length (bys (spliceI (blk c) 0 (List.take (Int.toNat cut) b))) ∧ capLe 64 none = true then LV.isl 1 (List.take 64 (List.drop 0 (bys (spliceI (blk c) 0 (List.take (Int.toNat cut) b))))) else LV.any else LV.sl 1 1 0 64 none] = LV.agg [LV.int IntKind.i64 a, LV.isl 1 (bys (spliceI (blk c) 0 (List.take (Int.toNat cut) b)))] := by simp (disch := first | omega | (simp; omega)) [-List.reduceReplicate]
  have f21 : (if 1 = 1 then if 1 = 1 ∧ 0 + 64 ≤ List.length (bys (spliceI (blk c) 0 (List.take (Int.toNat cut) b))) ∧ capLe 64 none = true then LV.isl 1 (List.take 64 (List.drop 0 (bys (spliceI (blk c) 0 (List.take (Int.toNat cut) b))))) else LV.any else LV.sl 1 1 0 64 none) = LV.isl 1 (bys (spliceI (blk c) 0 (List.take (Int.toNat cut) b))) := by simp (disch := first | omega | (simp; omega)) [-List.reduceReplicate]
  have f22 : LObj.box 88 [LV.int IntKind.i64 a, if 1 = 1 then if 1 = 1 ∧ 0 + 64 ≤ List.length (bys (spliceI (blk c) 0 (List.take (Int.toNat cut) b))) ∧ capLe 64 none = true then LV.isl 1 (List.take 64 (List.drop 0 (bys (spliceI (blk c) 0 (List.take (Int.toNat cut) b))))) else LV.any else LV.sl 1 1 0 64 none] = LObj.box 88 [LV.int IntKind.i64 a, LV.isl 1 (bys (spliceI (blk c) 0 (List.take (Int.toNat cut) b)))] := by simp (disch := first | omega | (simp; omega)) [-List.reduceReplicate]
  have f23 : lrun Try.prog C0 (lcall Try.prog C0 (n + 59)) (n + 59) 41 [LV.map 0, LV.agg [LV.int IntKind.i64 a, LV.sl 1 1 0 64 none]] (St.mk 2 [(0, LObj.map IntKind.i64 (mapE m)), (1, LObj.row 5 1 (bys (spliceI (blk c) 0 (List.take (Int.toNat cut) b))))]) = some (LV.tup [], St.mk 2 [(0, LObj.map IntKind.i64 (kput (mapE m) a (LV.isl 1 (bys (spliceI (blk c) 0 (List.take (Int.toNat cut) b))))))]) := drun_ok (fun h => And.intro (f20) <| And.intro (f21) <| And.intro (f21) <| And.intro (congrArg some f22) <| h) (.s (.a) (.s (.a) (.r [.a, .a, .a, .a, .a, .z [.y 1 (vOf f20), .y 5 (vOf f21), .y 14 (vOf f21), .x 2 (vOf f22)] (.a)]))) [] .a (by kernel_rfl)
  have f24 : (LV.tup [], St.mk 1 [(0, LObj.box 77 [LV.int IntKind.i64 rm, LV.omap IntKind.i64 (List.map (fun x => Prod.fst x) (kput (mapE m) a (LV.isl 1 (bys (spliceI (blk c) 0 (List.take (Int.toNat cut) b)))))) (List.map (fun x => Prod.snd x) (kput (mapE m) a (LV.isl 1 (bys (spliceI (blk c) 0 (List.take (Int.toNat cut) b)))))), LV.own 88 2 []])]) = (LV.tup [], St.mk 1 [(0, dO rm m' [])]) := by simp (disch := omega) [-List.reduceReplicate, hb, hk, hk2, h0, h1, hc, hg, hm, hb2]
  exact drun_ok (fun h => And.intro (congrArg some f1) <| And.intro (congrArg some f1) <| And.intro (congrArg some f1) <| And.intro (f3) <| And.intro (f2) <| And.intro (congrArg some f4) <| And.intro (congrArg some f1) <| And.intro (congrArg some f1) <| And.intro (f5) <| And.intro (congrArg some f6) <| And.intro (f7) <| And.intro (f3) <| And.intro (f2) <| And.intro (f8) <| And.intro (f9) <| And.intro (f10) <| And.intro (f11) <| And.intro (f12) <| And.intro (f13) <| And.intro (f14) <| And.intro (f15) <| And.intro (f16) <| And.intro (f17) <| And.intro (f18) <| And.intro (congrArg some f19) <| And.intro (f23) <| f24) (.s (.a) (.s (.s (.a) (.k (.l (.i (.s (.a) (.s (.a) (.s (.k (.s (.a) (.s (.r [.a, .a, .a, .a, .a, .g true (.a), .g true (.a), .g true (.x 1 (vOf f4) (.e (rOf f2))), .g true (.a), .g true (.a), .v (vOf f5) (.a)]) (.a)))) (.a)))) (.a))))) (.s (.r [.a, .a, .a, .x 2 (vOf f6) (.a), .f (rOf f7)]) (.s (.s (.a) (.k (.l (.i (.s (.a) (.s (.a) (.s (.k (.s (.a) (.s (.s (.r [.a, .a, .a, .a, .a, .a, .e (rOf f2), .a, .a, .v (vOf f8) (.a)]) (.a)) (.s (.s (.r [.a, .a, .a, .a, .a, .a, .q, .a, .a, .a, .a, .v (vOf f10) (.a), .a, .a, .a, .v (vOf f11) (.a)]) (.c (.s (.r [.a, .a, .a, .o (vOf f12), .f (rOf f13)]) (.s (.r [.a, .a, .a, .a, .v (vOf f15) (.q), .x 5 (vOf f19) (.v (vOf f18) (.q))]) (.a))))) (.r [.a, .a, .f (rOf f23)]))))) (.a)))) (.a))))) (.a))))) [] .q (by kernel_rfl)
@[simp] theorem lsplice_none (l : List LV) : lsplice l 0 [] = l := by simp [lsplice]
theorem crash_torn0 (n : Nat) (rm : Int) (m m' : List (Int × List Int)) (a : Int) (b : List Int) (hb : b.length = 64) (ks : List Int) (hk : 0 < ks.length) (hk2 : ¬ atI ks 0 = 0) (cut : Int) (h0 : 0 ≤ cut) (h1 : cut < 64) (hg : kget (mapE m) a = none)
    (hm : kput (mapE m) a (.isl 1 (bys (spliceI (List.replicate 64 0) 0 (b.take cut.toNat)))) = mapE m') :
    lrun Try.prog C0 (lcall Try.prog C0 (n + 60)) (n + 60) 15 [.ptr 0 0, .isl 1 (ints ks), .int .i64 cut] ⟨1, [(0, dO rm m [(a, some b)])]⟩ = some (.tup [], ⟨1, [(0, dO rm m' [])]⟩) := by
  have hb2 : b ≠ [] := by intro h; subst h; simp at hb
  have f1 : decide (0 < (↑(List.length (ints ks)) : Int)) = true := by (simp [-List.reduceReplicate]; omega)
  have f2 : (ints ks)[0]? = some (LV.int IntKind.i64 (atI ks 0)) := by simp (disch := omega) [-List.reduceReplicate]
  have f3 : (0 : Int) ≤ (0 : Int) ∧ (0 : Int) < (↑(List.length (ints ks)) : Int) := by (simp [-List.reduceReplicate]; omega)
  have f4 : LObj.row 88 2 (pnds [(a, some b)]) = LObj.row 88 2 [LV.agg [LV.int IntKind.i64 a, LV.isl 1 (bys b)]] := by simp
  have f5 : LV.bool (if decide (0 < (↑(List.length (ints ks)) : Int)) = true then !decide (atI ks 0 = 0) else false) = LV.bool true := by (simp [-List.reduceReplicate]; omega)
  have f6 : LObj.map IntKind.i64 (List.zip (mapK m) (mapV m)) = LObj.map IntKind.i64 (mapE m) := by simp
  have f7 := clone_ok (n + 54) m
  have f8 : LV.bool (if false = true then true else decide (atI ks 0 = 0)) = LV.bool false := by (simp [-List.reduceReplicate]; omega)
  have f9 : List.isEmpty (bys b) = false := by (simp [-List.reduceReplicate]; omega)
  have f10 : LV.bool (if true = true then decide (0 ≤ cut) else false) = LV.bool true := by (simp [-List.reduceReplicate]; omega)
  have f11 : LV.bool (if true = true then decide (cut < 64) else false) = LV.bool true := by (simp [-List.reduceReplicate]; omega)
  have f12 : kget (mapE m) a = none := hg
  have f13 : lrun Try.prog C0 (lcall Try.prog C0 (n + 59)) (n + 59) 40 [LV.nils] (St.mk 0 []) = some (LV.sl 1 0 0 64 none, St.mk 1 [(0, LObj.row 5 1 (lsplice (List.replicate 64 (LV.int IntKind.u8 0)) 0 []))]) := by kernel_rfl
  have f14 : (0 : Int) ≤ (0 : Int) ∧ (0 : Int) ≤ Option.getD (some cut) (↑(List.length (bys b)) : Int) ∧ Option.getD (some cut) (↑(List.length (bys b)) : Int) ≤ (↑(List.length (bys b)) : Int) := by (simp [-List.reduceReplicate]; omega)
  have f15 : LV.isl 1 (List.drop 0 (List.take (Int.toNat (Option.getD (some cut) (↑(List.length (bys b)) : Int))) (bys b))) = LV.isl 1 (bys (List.take (Int.toNat cut) b)) := by simp
  have f16 : LObj.row 5 1 (lsplice (List.replicate 64 (LV.int IntKind.u8 0)) 0 []) = LObj.row 5 1 (bys (List.replicate 64 0)) := by simp
  have f17 : okElems true 1 (sealL (bys (List.take (Int.toNat cut) b))) = true := by simp
  have f18 : 64 ≤ 64 := by omega
  have f19 : LV.int IntKind.i64 (↑(min (List.length (sealL (bys (List.take (Int.toNat cut) b)))) 64) : Int) = LV.int IntKind.i64 (max cut 0) := by simp (disch := omega) [-List.reduceReplicate]
  have f20 : LObj.row 5 1 (lsplice (bys (List.replicate 64 0)) 0 (List.take (min (List.length (sealL (bys (List.take (Int.toNat cut) b)))) 64) (sealL (bys (List.take (Int.toNat cut) b))))) = LObj.row 5 1 (bys (spliceI (List.replicate 64 0) 0 (List.take (Int.toNat cut) b))) := by simp (disch := first | omega | (simp; omega)) [-List.reduceReplicate]
  have f21 : LV.agg [LV.int IntKind.i64 a, if 1 = 1 then if 1 = 1 ∧ 0 + 64 ≤ List.length (bys (spliceI (List.replicate 64 0) 0 (List.take (Int.toNat cut) b))) ∧ capLe 64 none = true then LV.isl 1 (List.take 64 (List.drop 0 (bys (spliceI (List.replicate 64 0) 0 (List.take (Int.toNat cut) b))))) else LV.any else LV.sl 1 1 0 64 none] = LV.agg [LV.int IntKind.i64 a, LV.isl 1 (bys (spliceI (List.replicate 64 0) 0 (List.take (Int.toNat cut) b)))] := by simp (disch := first | omega | (simp; omega)) [-List.reduceReplicate]
  have f22 : (if 1 = 1 then if 1 = 1 ∧ 0 + 64 ≤ List.length (bys (spliceI (List.replicate 64 0) 0 (List.take (Int.toNat cut) b))) ∧ capLe 64 none = true then LV.isl 1 (List.take 64 (List.drop 0 (bys (spliceI (List.replicate 64 0) 0 (List.take (Int.toNat cut) b))))) else LV.any else LV.sl 1 1 0 64 none) = LV.isl 1 (bys (spliceI (List.replicate 64 0) 0 (List.take (Int.toNat cut) b))) := by simp (disch := first | omega | (simp; omega)) [-List.reduceReplicate]
  have f23 : LObj.box 88 [LV.int IntKind.i64 a, if 1 = 1 then if 1 = 1 ∧ 0 + 64 ≤ List.length (bys (spliceI (List.replicate 64 0) 0 (List.take (Int.toNat cut) b))) ∧ capLe 64 none = true then LV.isl 1 (List.take 64 (List.drop 0 (bys (spliceI (List.replicate 64 0) 0 (List.take (Int.toNat cut) b))))) else LV.any else LV.sl 1 1 0 64 none] = LObj.box 88 [LV.int IntKind.i64 a, LV.isl 1 (bys (spliceI (List.replicate 64 0) 0 (List.take (Int.toNat cut) b)))] := by simp (disch := first | omega | (simp; omega)) [-List.reduceReplicate]
  have f24 : lrun Try.prog C0 (lcall Try.prog C0 (n + 59)) (n + 59) 41 [LV.map 0, LV.agg [LV.int IntKind.i64 a, LV.sl 1 1 0 64 none]] (St.mk 2 [(0, LObj.map IntKind.i64 (mapE m)), (1, LObj.row 5 1 (bys (spliceI (List.replicate 64 0) 0 (List.take (Int.toNat cut) b))))]) = some (LV.tup [], St.mk 2 [(0, LObj.map IntKind.i64 (kput (mapE m) a (LV.isl 1 (bys (spliceI (List.replicate 64 0) 0 (List.take (Int.toNat cut) b))))))]) := drun_ok (fun h => And.intro (f21) <| And.intro (f22) <| And.intro (f22) <| And.intro (congrArg some f23) <| h) (.s (.a) (.s (.a) (.r [.a, .a, .a, .a, .a, .z [.y 1 (vOf f21), .y 5 (vOf f22), .y 14 (vOf f22), .x 2 (vOf f23)] (.a)]))) [] .a (by kernel_rfl)
  have f25 : (LV.tup [], St.mk 1 [(0, LObj.box 77 [LV.int IntKind.i64 rm, LV.omap IntKind.i64 (List.map (fun x => Prod.fst x) (kput (mapE m) a (LV.isl 1 (bys (spliceI (List.replicate 64 0) 0 (List.take (Int.toNat cut) b)))))) (List.map (fun x => Prod.snd x) (kput (mapE m) a (LV.isl 1 (bys (spliceI (List.replicate 64 0) 0 (List.take (Int.toNat cut) b)))))), LV.own 88 2 []])]) = (LV.tup [], St.mk 1 [(0, dO rm m' [])]) := by simp (disch := omega) [-List.reduceReplicate, hb, hk, hk2, h0, h1, hg, hm, hb2]
  exact drun_ok (fun h => And.intro (congrArg some f1) <| And.intro (congrArg some f1) <| And.intro (congrArg some f1) <| And.intro (f3) <| And.intro (f2) <| And.intro (congrArg some f4) <| And.intro (congrArg some f1) <| And.intro (congrArg some f1) <| And.intro (f5) <| And.intro (congrArg some f6) <| And.intro (f7) <| And.intro (f3) <| And.intro (f2) <| And.intro (f8) <| And.intro (f9) <| And.intro (f10) <| And.intro (f11) <| And.intro (f12) <| And.intro (f13) <| And.intro (f14) <| And.intro (f15) <| And.intro (congrArg some f16) <| And.intro (f17) <| And.intro (f18) <| And.intro (f19) <| And.intro (congrArg some f20) <| And.intro (f24) <| f25) (.s (.a) (.s (.s (.a) (.k (.l (.i (.s (.a) (.s (.a) (.s (.k (.s (.a) (.s (.r [.a, .a, .a, .a, .a, .g true (.a), .g true (.a), .g true (.x 1 (vOf f4) (.e (rOf f2))), .g true (.a), .g true (.a), .v (vOf f5) (.a)]) (.a)))) (.a)))) (.a))))) (.s (.r [.a, .a, .a, .x 2 (vOf f6) (.a), .f (rOf f7)]) (.s (.s (.a) (.k (.l (.i (.s (.a) (.s (.a) (.s (.k (.s (.a) (.s (.s (.r [.a, .a, .a, .a, .a, .a, .e (rOf f2), .a, .a, .v (vOf f8) (.a)]) (.a)) (.s (.s (.r [.a, .a, .a, .a, .a, .a, .q, .a, .a, .a, .a, .v (vOf f10) (.a), .a, .a, .a, .v (vOf f11) (.a)]) (.c (.s (.r [.a, .a, .a, .o (vOf f12), .f (rOf f13)]) (.s (.r [.a, .a, .a, .a, .x 5 (vOf f16) (.v (vOf f15) (.q)), .x 5 (vOf f20) (.v (vOf f19) (.q))]) (.a))))) (.r [.a, .a, .f (rOf f24)]))))) (.a)))) (.a))))) (.a))))) [] .q (by kernel_rfl)
end Go.Mac

namespace Go.Mac
open Go Go.Eng Go.Proofs
set_option linter.unusedVariables false
set_option maxHeartbeats 0
set_option maxRecDepth 100000
def keysOk (l : List (Int × LV)) : Prop := ascB (l.map (·.1)) = true ∧ (∀ x ∈ l, -9223372036854775808 ≤ x.1 ∧ x.1 ≤ 9223372036854775807) ∧ l.length ≤ 1000000
theorem sorted_ok (n : Nat) (l : List (Int × LV)) (h : keysOk l) :
    lrun Try.prog C0 (lcall Try.prog C0 n) n 48 [.fn 65 [] [.ptr 0 0]] ⟨2, [(0, .box 74 [.map 1]), (1, .map .i64 l)]⟩ = some (.isl 1 (ints (l.map (·.1))), ⟨2, [(0, .box 74 [.map 1]), (1, .map .i64 l)]⟩) := by
  obtain ⟨ha, hw, hn⟩ := h
  have hz3 : (l.all fun x => decide (-9223372036854775808 ≤ x.1) && decide (x.1 ≤ 9223372036854775807)) = true := by
    rw [List.all_eq_true]
    intro x hx
    have := hw x hx
    simp [this.1, this.2]
  have X : xSorted [.fn 65 [] [.ptr 0 0]] ⟨2, [(0, .box 74 [.map 1]), (1, .map .i64 l)]⟩ = some (.isl 1 (ints (l.map (·.1))), ⟨2, [(0, .box 74 [.map 1]), (1, .map .i64 l)]⟩) := by
    show (if (65 : Nat) = 65 ∧ ascB (l.map (·.1)) = true ∧ (l.all fun x => decide (-9223372036854775808 ≤ x.1) && decide (x.1 ≤ 9223372036854775807)) = true ∧ l.length ≤ 1000000 then some (LV.isl 1 ((l.map (·.1)).map (LV.int .i64)), (⟨2, [(0, .box 74 [.map 1]), (1, .map .i64 l)]⟩ : St)) else none) = _
    rw [if_pos ⟨rfl, ha, hz3, hn⟩]
    rfl
  exact x_runx rfl X (by kernel_rfl)
end Go.Mac

namespace Go.Mac
open Go Go.Eng Go.Proofs
set_option linter.unusedVariables false
set_option maxHeartbeats 0
set_option maxRecDepth 100000
abbrev ceE (ks : List Int) (l : LV) (i : Int) : LEnv := [LV.ptr 0 0, LV.any, LV.any, l, LV.any, LV.any, LV.any, LV.any, LV.any, LV.any, LV.any,
    LV.isl 1 (ints ks), LV.int IntKind.i64 ks.length, LV.int IntKind.i64 i, LV.any, LV.any, LV.any, LV.any, LV.any, LV.any, LV.any,
    LV.any, LV.any, LV.any, LV.any, LV.any, LV.any, LV.any, LV.any, LV.any, LV.any]
abbrev ceS (rm : Int) (m : List (Int × List Int)) (p : List (Int × Option (List Int))) : St := ⟨2, [(0, LObj.box 77 [LV.int IntKind.i64 rm, LV.map 1, LV.own 88 2 (pnds p)]), (1, LObj.map IntKind.i64 (mapE m))]⟩
theorem cl_step0 (n fu : Nat) (rm : Int) (m : List (Int × List Int)) (p : List (Int × Option (List Int))) (ks : List Int) (hl : ks.length ≤ 1000000) (hk : 0 < ks.length) (b : List Int) (hg : kget (mapE m) (atI ks 0) = some (.isl 1 (bys b))) (r : LX × LEnv × St)
    (hr : loopAt Try.prog C0 (n + 60) 23 0 1 fu (ceE ks (.sl 2 2 0 1 none) 1) ⟨3, [(0, LObj.box 77 [LV.int IntKind.i64 rm, LV.map 1, LV.own 88 2 (pnds p)]), (1, LObj.map IntKind.i64 (mapE m)), (2, .row 52 2 [.agg [.int .i64 (atI ks 0), .isl 1 (bys (blk b))]])]⟩ = some r) :
    loopAt Try.prog C0 (n + 60) 23 0 1 (fu + 1) (ceE ks .nils 0) (ceS rm m p) = some r := by
  have f1 : decide (0 < (↑(List.length ks) : Int)) = true := by (simp [-List.reduceReplicate]; omega)
  have f2 : (ints ks)[0]? = some (LV.int IntKind.i64 (atI ks 0)) := by simp (disch := omega) [-List.reduceReplicate]
  have f3 : (0 : Int) ≤ (0 : Int) ∧ (0 : Int) < (↑(List.length (ints ks)) : Int) := by (simp [-List.reduceReplicate]; omega)
  have f4 : kget (mapE m) (atI ks 0) = some (LV.isl 1 (bys b)) := hg
  have f5 := whole_ok (n + 50) b
  have f6 : LV.bool (decide (0 < (↑(List.length ks) : Int))) = LV.bool true := by (simp [-List.reduceReplicate]; omega)
  have f7 : (if 2 = 2 then if 1 = 1 ∧ 0 + 64 ≤ List.length (bys (blk b)) ∧ capLe 64 none = true then LV.isl 1 (List.take 64 (List.drop 0 (bys (blk b)))) else LV.any else LV.sl 1 2 0 64 none) = LV.isl 1 (bys (blk b)) := by simp
  have f8 : LV.agg [LV.int IntKind.i64 (atI ks 0), if 2 = 2 then if 1 = 1 ∧ 0 + 64 ≤ List.length (bys (blk b)) ∧ capLe 64 none = true then LV.isl 1 (List.take 64 (List.drop 0 (bys (blk b)))) else LV.any else LV.sl 1 2 0 64 none] = LV.agg [LV.int IntKind.i64 (atI ks 0), LV.isl 1 (bys (blk b))] := by simp
  have f9 : LObj.row 52 2 (List.take 1 (List.drop 0 (List.set [LV.agg [LV.int IntKind.i64 0, LV.nils]] 0 (LV.agg [LV.int IntKind.i64 (atI ks 0), LV.isl 1 (bys (blk b))])))) = LObj.row 52 2 [LV.agg [LV.int IntKind.i64 (atI ks 0), LV.isl 1 (bys (blk b))]] := by simp
  have f10 := hr
  exact dloop_ok (fun h => And.intro (congrArg LV.bool f1) <| And.intro (f3) <| And.intro (f2) <| And.intro (f4) <| And.intro (f5) <| And.intro (f6) <| And.intro (f7) <| And.intro (f8) <| And.intro (congrArg some f9) <| And.intro (Eq.refl (tidyOf f10)) <| And.intro (f10) <| h) (.i (.s (.a) (.s (.b true (.a)) (.s (.k (.s (.r [.e (rOf f2)]) (.r [.a, .a, .a, .a, .a, .a, .a, .o (vOf f4), .f (rOf f5), .a, .z [.y 14 (vOf f6), .y 25 (vOf f7), .y 26 (vOf f8)] (.a)]))) (.a)))) (.h [.x 2 (vOf f9)] (eOf f10) (stOf f10) (rOf f10))) (by kernel_rfl)
abbrev ceT (rm : Int) (m : List (Int × List Int)) (p : List (Int × Option (List Int))) (cs : List LV) : St := ⟨3, [(0, LObj.box 77 [LV.int IntKind.i64 rm, LV.map 1, LV.own 88 2 (pnds p)]), (1, LObj.map IntKind.i64 (mapE m)), (2, .row 52 2 cs)]⟩
theorem cl_step (n fu : Nat) (rm : Int) (m : List (Int × List Int)) (p : List (Int × Option (List Int))) (ks : List Int) (hl : ks.length ≤ 1000000) (k : Nat) (h0 : 0 < k) (hk : k < ks.length) (b : List Int) (hg : kget (mapE m) (atI ks k) = some (.isl 1 (bys b))) (cs : List LV) (hcs : cs.length = k) (r : LX × LEnv × St)
    (hr : loopAt Try.prog C0 (n + 60) 23 0 1 fu (ceE ks (.sl 2 2 0 (k + 1) none) ((k : Int) + 1)) (ceT rm m p (cs ++ [.agg [.int .i64 (atI ks k), .isl 1 (bys (blk b))]])) = some r) :
    loopAt Try.prog C0 (n + 60) 23 0 1 (fu + 1) (ceE ks (.sl 2 2 0 k none) k) (ceT rm m p cs) = some r := by
  have e1 : (ints ks)[k]? = some (.int .i64 (atI ks k)) := by simp [hk]
  have f1 : decide ((↑k : Int) < (↑(List.length ks) : Int)) = true := by (simp [-List.reduceReplicate]; omega)
  have f2 : (ints ks)[Int.toNat (↑k : Int)]? = some (LV.int IntKind.i64 (atI ks k)) := by simp (disch := omega) [-List.reduceReplicate]
  have f3 : 0 ≤ (↑k : Int) ∧ (↑k : Int) < (↑(List.length (ints ks)) : Int) := by (simp [-List.reduceReplicate]; omega)
  have f4 : kget (mapE m) (atI ks k) = some (LV.isl 1 (bys b)) := hg
  have f5 := whole_ok (n + 50) b
  have f6 : LV.bool (decide ((↑k : Int) < (↑(List.length ks) : Int))) = LV.bool true := by (simp [-List.reduceReplicate]; omega)
  have f7 : (if 3 = 3 then if 1 = 1 ∧ 0 + 64 ≤ List.length (bys (blk b)) ∧ capLe 64 none = true then LV.isl 1 (List.take 64 (List.drop 0 (bys (blk b)))) else LV.any else LV.sl 1 3 0 64 none) = LV.isl 1 (bys (blk b)) := by simp
  have f8 : LV.agg [LV.int IntKind.i64 (atI ks k), if 3 = 3 then if 1 = 1 ∧ 0 + 64 ≤ List.length (bys (blk b)) ∧ capLe 64 none = true then LV.isl 1 (List.take 64 (List.drop 0 (bys (blk b)))) else LV.any else LV.sl 1 3 0 64 none] = LV.agg [LV.int IntKind.i64 (atI ks k), LV.isl 1 (bys (blk b))] := by simp
  have f9 : 1 ≤ 1 := by omega
  have f10 : List.length cs = k ∧ (k + 1) * 32 ≤ 140737488355328 := by omega
  have f11 : LObj.row 52 2 (cs ++ List.take 1 (List.drop 0 (List.set [LV.agg [LV.int IntKind.i64 0, LV.nils]] 0 (LV.agg [LV.int IntKind.i64 (atI ks k), LV.isl 1 (bys (blk b))])))) = LObj.row 52 2 (cs ++ [LV.agg [LV.int IntKind.i64 (atI ks k), LV.isl 1 (bys (blk b))]]) := by simp
  have f12 : LObj.row 52 2 (List.set [LV.agg [LV.int IntKind.i64 0, LV.nils]] 0 (LV.agg [LV.int IntKind.i64 (atI ks k), LV.isl 1 (bys (blk b))])) = LObj.row 52 2 [LV.agg [LV.int IntKind.i64 (atI ks k), LV.isl 1 (bys (blk b))]] := by simp
  have f13 : LV.int IntKind.i64 (IntKind.wrap IntKind.i64 ((↑k : Int) + 1)) = LV.int IntKind.i64 ((↑k : Int) + 1) := by simp (disch := omega) [-List.reduceReplicate]
  have f14 := hr
  exact dloop_ok (fun h => And.intro (congrArg LV.bool f1) <| And.intro (f3) <| And.intro (f2) <| And.intro (f4) <| And.intro (f5) <| And.intro (f6) <| And.intro (f7) <| And.intro (f8) <| And.intro (f9) <| And.intro (f10) <| And.intro (congrArg some f11) <| And.intro (congrArg some f12) <| And.intro (f13) <| And.intro (Eq.refl (tidyOf f14)) <| And.intro (f14) <| h) (.i (.s (.a) (.s (.b true (.a)) (.s (.k (.s (.r [.e (rOf f2)]) (.r [.a, .a, .a, .a, .a, .a, .a, .o (vOf f4), .f (rOf f5), .a, .z [.y 14 (vOf f6), .y 25 (vOf f7), .y 26 (vOf f8)] (.a), .x 4 (vOf f12) (.x 5 (vOf f11) (.q))]))) (.r [.v (vOf f13) (.a)])))) (.h [] (eOf f14) (stOf f14) (rOf f14))) (by kernel_rfl)
abbrev ceX (ks : List Int) (l : LV) (i : Int) : LEnv := [LV.ptr 0 0, LV.any, LV.any, l, LV.any, LV.any, LV.any, LV.any, LV.any, LV.any, LV.any,
    LV.isl 1 (ints ks), LV.int IntKind.i64 ks.length, LV.int IntKind.i64 i, LV.bool (decide (i < ks.length)), LV.any, LV.any, LV.any, LV.any, LV.any, LV.any,
    LV.any, LV.any, LV.any, LV.any, LV.any, LV.any, LV.any, LV.any, LV.any, LV.any]
theorem cl_end (n fu : Nat) (rm : Int) (m : List (Int × List Int)) (p : List (Int × Option (List Int))) (ks : List Int) (hl : ks.length ≤ 1000000) (k : Nat) (h0 : 0 < k) (hk : ks.length ≤ k) (cs : List LV) :
    loopAt Try.prog C0 (n + 60) 23 0 1 (fu + 1) (ceE ks (.sl 2 2 0 k none) k) (ceT rm m p cs) = some (.exit 0, ceX ks (.sl 2 2 0 k none) k, ceT rm m p cs) := by
  have f1 : decide ((↑k : Int) < (↑(List.length ks) : Int)) = false := by (simp [-List.reduceReplicate]; omega)
  exact dloop_ok (fun h => And.intro (congrArg LV.bool f1) <| h) (.i (.s (.a) (.s (.b false (.a)) .a)) (.a)) (by kernel_rfl)
theorem cl_end0 (n fu : Nat) (rm : Int) (m : List (Int × List Int)) (p : List (Int × Option (List Int))) :
    loopAt Try.prog C0 (n + 60) 23 0 1 (fu + 1) (ceE [] .nils 0) (ceS rm m p) = some (.exit 0, ceX [] .nils 0, ceS rm m p) := by
  exact dloop_ok (fun h => h) (.a) (by kernel_rfl)
def cellL (x : Int × List Int) : LV := .agg [.int .i64 x.1, .isl 1 (bys (blk x.2))]
def cellsL (m : List (Int × List Int)) : List LV := m.map cellL
@[simp] theorem cellsL_length (m : List (Int × List Int)) : (cellsL m).length = m.length := by simp [cellsL]
theorem cells_thru (n : Nat) (rm : Int) (m : List (Int × List Int)) (p : List (Int × Option (List Int))) (ho : keysOk (mapE m)) (h0 : 0 < m.length) (k : Nat) (hk : k = m.length)
    (L : loopAt Try.prog C0 (n + 60) 23 0 1 (n + 60) (ceE (mapK m) .nils 0) (ceS rm m p) = some (.exit 0, ceX (mapK m) (.sl 2 2 0 k none) k, ceT rm m p (cellsL m))) :
    lrun Try.prog C0 (lcall Try.prog C0 (n + 60)) (n + 60) 23 [.ptr 0 0] ⟨1, [(0, dO rm m p)]⟩ = some (.isl 2 (cellsL m), ⟨1, [(0, dO rm m p)]⟩) := by
  have S := fun n => sorted_ok n (mapE m) ho
  have hE : (cellsL m).take m.length = cellsL m := List.take_of_length_le (by simp)
  have f1 : LObj.map IntKind.i64 (List.zip (mapK m) (mapV m)) = LObj.map IntKind.i64 (mapE m) := by simp
  have f2 := S (n + 59)
  have f3 : LV.isl 1 (ints (List.map (fun x => Prod.fst x) (mapE m))) = LV.isl 1 (ints (mapK m)) := by simp
  have f4 : LV.int IntKind.i64 (↑(List.length (ints (mapK m))) : Int) = LV.int IntKind.i64 (↑(List.length (mapK m)) : Int) := by simp
  have f5 := L
  have f6 : (if 2 = 2 then if 2 = 2 ∧ 0 + k ≤ List.length (cellsL m) ∧ capLe k none = true then LV.isl 2 (List.take k (List.drop 0 (cellsL m))) else LV.any else LV.sl 2 2 0 k none) = LV.isl 2 (cellsL m) := by simp (disch := omega) [-List.reduceReplicate, ho, h0, hk, L, S, hE]
  have f7 : (LV.isl 2 (cellsL m), St.mk 1 [(0, LObj.box 77 [LV.int IntKind.i64 rm, LV.omap IntKind.i64 (List.map (fun x => Prod.fst x) (mapE m)) (List.map (fun x => Prod.snd x) (mapE m)), LV.own 88 2 (pnds p)])]) = (LV.isl 2 (cellsL m), St.mk 1 [(0, dO rm m p)]) := by simp
  exact drun_ok (fun h => And.intro (congrArg some f1) <| And.intro (f2) <| And.intro (f3) <| And.intro (f4) <| And.intro (Eq.refl (tidyOf f5)) <| And.intro (f5) <| And.intro (f6) <| f7) (.s (.a) (.s (.a) (.s (.s (.r [.a, .a, .a, .x 1 (vOf f1) (.a), .a, .v (vOf f3) (.f (rOf f2))]) (.k (.l (.h [.y 12 (vOf f4)] (eOf f5) (stOf f5) (rOf f5))))) (.a)))) [.y 0 (vOf f6)] .q (by kernel_rfl)
theorem cells_none (n : Nat) (rm : Int) (p : List (Int × Option (List Int))) :
    lrun Try.prog C0 (lcall Try.prog C0 (n + 60)) (n + 60) 23 [.ptr 0 0] ⟨1, [(0, dO rm [] p)]⟩ = some (.isl 2 [], ⟨1, [(0, dO rm [] p)]⟩) := by
  have S : ∀ n, lrun Try.prog C0 (lcall Try.prog C0 n) n 48 [.fn 65 [] [.ptr 0 0]] ⟨2, [(0, .box 74 [.map 1]), (1, .map .i64 [])]⟩ = some (.isl 1 [], ⟨2, [(0, .box 74 [.map 1]), (1, .map .i64 [])]⟩) := fun n => sorted_ok n [] ⟨rfl, by simp, by simp⟩
  have f1 := S (n + 59)
  exact drun_ok (fun h => And.intro (f1) <| h) (.s (.a) (.s (.a) (.s (.s (.r [.a, .a, .a, .a, .a, .f (rOf f1)]) (.a)) (.a)))) [] .a (by kernel_rfl)
theorem ascB_lt : ∀ {l : List Int}, ascB l = true → l.Pairwise (fun a b => a < b)
  | [], _ => .nil
  | [_], _ => .cons (by simp) .nil
  | a :: b :: l, h => by
    simp only [ascB, Bool.and_eq_true, decide_eq_true_eq] at h
    have ih := ascB_lt h.2
    refine .cons (fun c hc => ?_) ih
    rcases List.mem_cons.1 hc with rfl | hc
    · omega
    · have := (List.pairwise_cons.1 ih).1 c hc
      omega
theorem mget_at : ∀ {m : List (Int × List Int)} {k : Nat} {a : Int} {b : List Int}, ascB (mapK m) = true → m[k]? = some (a, b) → mget m a = some b
  | [], _, _, _, _, h => by simp at h
  | (c, d) :: m, 0, a, b, _, h => by
    have h : (c, d) = (a, b) := by simpa using h
    cases h
    simp [mget]
  | (c, d) :: m, k + 1, a, b, ha, h => by
    have h : m[k]? = some (a, b) := by simpa using h
    have hp := ascB_lt ha
    have hp : (c :: mapK m).Pairwise (fun a b => a < b) := hp
    have hlt : c < a := (List.pairwise_cons.1 hp).1 a (List.mem_map.2 ⟨(a, b), List.mem_of_getElem? h, rfl⟩)
    have ha2 : ascB (mapK m) = true := by
      cases m with
      | nil => rfl
      | cons x m =>
        have ha : (decide (c < x.1) && ascB (mapK (x :: m))) = true := ha
        simp only [Bool.and_eq_true] at ha
        exact ha.2
    have ih := mget_at ha2 h
    have : ¬ c = a := by omega
    simp [mget, this, ih]
theorem keysOk_asc {m : List (Int × List Int)} (h : keysOk (mapE m)) : ascB (mapK m) = true := by
  have := h.1
  rwa [mapE_fst] at this
theorem cells_loop (n : Nat) (rm : Int) (m : List (Int × List Int)) (p : List (Int × Option (List Int))) (ho : keysOk (mapE m)) : ∀ (q k fu : Nat), 0 < k → k + q = m.length → q < fu →
    loopAt Try.prog C0 (n + 60) 23 0 1 fu (ceE (mapK m) (.sl 2 2 0 k none) k) (ceT rm m p (cellsL (m.take k))) = some (.exit 0, ceX (mapK m) (.sl 2 2 0 m.length none) m.length, ceT rm m p (cellsL m))
  | 0, k, fu, h0, hk, hf => by
    obtain ⟨fu, rfl⟩ : ∃ k, fu = k + 1 := ⟨fu - 1, by omega⟩
    have e : k = m.length := by omega
    have hl : (mapK m).length = m.length := by simp [mapK]
    have hb := ho.2.2
    have hb : m.length ≤ 1000000 := by simpa [mapE] using hb
    have := cl_end n fu rm m p (mapK m) (by omega) k h0 (by omega) (cellsL (m.take k))
    rw [this]
    subst e
    rw [List.take_length]
  | q + 1, k, fu, h0, hk, hf => by
    obtain ⟨fu, rfl⟩ : ∃ k, fu = k + 1 := ⟨fu - 1, by omega⟩
    have hl : (mapK m).length = m.length := by simp [mapK]
    have hb := ho.2.2
    have hb : m.length ≤ 1000000 := by simpa [mapE] using hb
    have hlt : k < m.length := by omega
    have hx : m[k]? = some m[k] := List.getElem?_eq_getElem hlt
    have ha : atI (mapK m) k = m[k].1 := by
      unfold atI
      rw [List.getD_eq_getElem?_getD]
      simp [mapK, hx]
    have hg : kget (mapE m) (atI (mapK m) k) = some (.isl 1 (bys m[k].2)) := by
      rw [ha, kget_mapE, mget_at (keysOk_asc ho) (show m[k]? = some (m[k].1, m[k].2) from hx)]
      rfl
    have ih := cells_loop n rm m p ho q (k + 1) fu (by omega) (by omega) (by omega)
    have et : cellsL (m.take (k + 1)) = cellsL (m.take k) ++ [.agg [.int .i64 (atI (mapK m) k), .isl 1 (bys (blk m[k].2))]] := by
      rw [ha]
      unfold cellsL
      rw [List.take_add_one, hx, List.map_append]
      rfl
    rw [et] at ih
    refine cl_step n fu rm m p (mapK m) (by omega) k h0 (by omega) _ hg _ (by simp; omega) _ ?_
    exact ih
theorem cells_ok (n : Nat) (rm : Int) (m : List (Int × List Int)) (p : List (Int × Option (List Int))) (ho : keysOk (mapE m)) (hn : m.length < n + 60) :
    lrun Try.prog C0 (lcall Try.prog C0 (n + 60)) (n + 60) 23 [.ptr 0 0] ⟨1, [(0, dO rm m p)]⟩ = some (.isl 2 (cellsL m), ⟨1, [(0, dO rm m p)]⟩) := by
  cases m with
  | nil => exact cells_none n rm p
  | cons x m =>
    have hb := ho.2.2
    have hb : (x :: m).length ≤ 1000000 := by simpa [mapE] using hb
    refine cells_thru n rm (x :: m) p ho (by simp) (x :: m).length rfl ?_
    have L := cells_loop n rm (x :: m) p ho m.length 1 (n + 59) (by omega) (by simp; omega) (by simp at hn; omega)
    refine cl_step0 n (n + 59) rm (x :: m) p (mapK (x :: m)) (by simpa [mapK] using hb) (by simp [mapK]) x.2 (by
      show kget ((x.1, .isl 1 (bys x.2)) :: mapE m) x.1 = _
      simp [kget]) _ ?_
    exact L
end Go.Mac

namespace Go.Mac
open Go Go.Eng Go.Proofs
set_option linter.unusedVariables false
set_option maxHeartbeats 0
set_option maxRecDepth 100000
def u8 (n : Int) : Int := IntKind.u8.wrap n
/-- A number's eight bytes, the highest first. -/
def dig (t : Int) : List Int := [u8 (((((((t.fdiv 256).fdiv 256).fdiv 256).fdiv 256).fdiv 256).fdiv 256).fdiv 256), u8 ((((((t.fdiv 256).fdiv 256).fdiv 256).fdiv 256).fdiv 256).fdiv 256), u8 (((((t.fdiv 256).fdiv 256).fdiv 256).fdiv 256).fdiv 256), u8 ((((t.fdiv 256).fdiv 256).fdiv 256).fdiv 256), u8 (((t.fdiv 256).fdiv 256).fdiv 256), u8 ((t.fdiv 256).fdiv 256), u8 (t.fdiv 256), u8 t]
theorem dig_length (t : Int) : (dig t).length = 8 := rfl
theorem digits_ok (n : Nat) (t : Int) (h0 : 0 ≤ t) (h1 : t ≤ 1000000) : lrun Try.prog C0 (lcall Try.prog C0 (n + 20)) (n + 20) 67 [.int .i64 t] ⟨0, []⟩ = some (.agg (bys (dig t)), ⟨0, []⟩) := by
  exact drun_ok (fun h => h) (.s (.a) (.s (.a) (.s (.s (.a) (.k (.l (.i (.s (.a) (.s (.k (.s (.r []) (.r []))) (.r []))) (.i (.s (.s (.r []) (.a)) (.s (.k (.s (.r []) (.r []))) (.r []))) (.i (.s (.s (.r []) (.a)) (.s (.k (.s (.r []) (.r []))) (.r []))) (.i (.s (.s (.r []) (.a)) (.s (.k (.s (.r []) (.r []))) (.r []))) (.i (.s (.s (.r []) (.a)) (.s (.k (.s (.r []) (.r []))) (.r []))) (.i (.s (.s (.r []) (.a)) (.s (.k (.s (.r []) (.r []))) (.r []))) (.i (.s (.s (.r []) (.a)) (.s (.k (.s (.r []) (.r []))) (.r []))) (.i (.s (.s (.r []) (.a)) (.s (.k (.s (.r []) (.r []))) (.r []))) (.i (.s (.s (.r []) (.a)) .a) (.a))))))))))))) (.s (.r []) (.a))))) [] .q (by kernel_rfl)
theorem blocks_ok (n : Nat) (a : Int) (h0 : 0 ≤ a) (h1 : a ≤ 1000000) : lrun Try.prog C0 (lcall Try.prog C0 (n + 20)) (n + 20) 32 [.int .i64 a] ⟨0, []⟩ = some (.int .i64 (if (a + 45).tdiv 46 < 1 then 1 else (a + 45).tdiv 46), ⟨0, []⟩) := by
  have e : a + 46 - 1 = a + 45 := by omega
  have hb : 0 ≤ (a + 45).tdiv 46 := Int.tdiv_nonneg (by omega) (by omega)
  have hb2 : (a + 45).tdiv 46 ≤ a + 45 := Int.tdiv_le_self _ (by omega)
  have f1 : LV.int IntKind.i64 (IntKind.wrap IntKind.i64 (a + 46)) = LV.int IntKind.i64 (a + 46) := by simp (disch := omega) [-List.reduceReplicate]
  have f2 : LV.int IntKind.i64 (IntKind.wrap IntKind.i64 (a + 46 - 1)) = LV.int IntKind.i64 (a + 45) := by (simp (disch := first | omega | (simp; omega)) [-List.reduceReplicate]; omega)
  have f3 : LV.int IntKind.i64 (IntKind.wrap IntKind.i64 (Int.tdiv (a + 45) 46)) = LV.int IntKind.i64 (Int.tdiv (a + 45) 46) := by simp (disch := omega) [-List.reduceReplicate]
  have f4 : LV.int IntKind.i64 (if true = true then if Int.tdiv (a + 45) 46 < 1 then 1 else Int.tdiv (a + 45) 46 else if 1 < Int.tdiv (a + 45) 46 then 1 else Int.tdiv (a + 45) 46) = LV.int IntKind.i64 (if Int.tdiv (a + 45) 46 < 1 then 1 else Int.tdiv (a + 45) 46) := by simp
  exact drun_ok (fun h => And.intro (f1) <| And.intro (f2) <| And.intro (f3) <| And.intro (f4) <| h) (.s (.a) (.s (.r [.a, .v (vOf f1) (.a), .v (vOf f2) (.a), .v (vOf f3) (.a), .v (vOf f4) (.a)]) (.a))) [] .a (by kernel_rfl)
theorem used_ok (n : Nat) (rm : Int) (m : List (Int × List Int)) (p : List (Int × Option (List Int))) (hp : p.length ≤ 1000000) (ho : okP p) : lrun Try.prog C0 (lcall Try.prog C0 (n + 20)) (n + 20) 34 [.ptr 0 0] ⟨1, [(0, dO rm m p)]⟩ = some (.int .i64 (needs m p).length, ⟨1, [(0, dO rm m p)]⟩) := by
  have f1 := needs_ok (n + 19) rm m p hp ho
  exact drun_ok (fun h => And.intro (f1) <| h) (.s (.a) (.s (.r [.a, .f (rOf f1)]) (.a))) [] .a (by kernel_rfl)
theorem room_ok (n : Nat) (rm : Int) (m : List (Int × List Int)) (p : List (Int × Option (List Int))) : lrun Try.prog C0 (lcall Try.prog C0 (n + 20)) (n + 20) 43 [.ptr 0 0] ⟨1, [(0, dO rm m p)]⟩ = some (.int .i64 rm, ⟨1, [(0, dO rm m p)]⟩) := by
  exact drun_ok (fun h => h) (.a) [] .a (by kernel_rfl)
end Go.Mac

namespace Go.Mac
open Go Go.Eng Go.Proofs
set_option linter.unusedVariables false
set_option maxHeartbeats 0
set_option maxRecDepth 100000
def fillX (t h : Int) (b : List Int) : List Int := spliceI (spliceI (((spliceI (List.replicate 64 0) 0 (dig t)).set 8 (u8 (h.fdiv 256))).set 9 (u8 h)) 10 b) 56 (dig t)
theorem spl_len (l : List Int) (o : Nat) (cs : List Int) (h : o + cs.length ≤ l.length) : (spliceI l o cs).length = l.length := by
  rw [spliceI_length]; omega
theorem bys_set' (l : List Int) (i : Nat) (x : Int) : (bys l).set i (.int .u8 x) = bys (l.set i x) := by simp [bys]
abbrev digL (t : Int) : List LV := [LV.int .u8 (u8 (((((((t.fdiv 256).fdiv 256).fdiv 256).fdiv 256).fdiv 256).fdiv 256).fdiv 256)), LV.int .u8 (u8 ((((((t.fdiv 256).fdiv 256).fdiv 256).fdiv 256).fdiv 256).fdiv 256)), LV.int .u8 (u8 (((((t.fdiv 256).fdiv 256).fdiv 256).fdiv 256).fdiv 256)), LV.int .u8 (u8 ((((t.fdiv 256).fdiv 256).fdiv 256).fdiv 256)), LV.int .u8 (u8 (((t.fdiv 256).fdiv 256).fdiv 256)), LV.int .u8 (u8 ((t.fdiv 256).fdiv 256)), LV.int .u8 (u8 (t.fdiv 256)), LV.int .u8 (u8 t)]
theorem digL_eq (t : Int) : digL t = bys (dig t) := rfl
theorem spl_lenL (l : List LV) (o : Nat) (cs : List LV) : (lsplice l o cs).length = min o l.length + cs.length + (l.length - (o + cs.length)) := by
  simp [lsplice]; omega
theorem fill_eq (t h : Int) (b : List Int) : lsplice (lsplice (((lsplice (bys (List.replicate 64 0)) 0 (digL t)).set 8 (LV.int .u8 (IntKind.u8.wrap (h.fdiv 256)))).set 9 (LV.int .u8 (IntKind.u8.wrap h))) 10 (bys b)) 56 (digL t) = bys (fillX t h b) := by
  rw [digL_eq, lsplice_bys, bys_set', bys_set', lsplice_bys, lsplice_bys]; rfl
theorem fillX_length (t h : Int) (b : List Int) (hb : b.length ≤ 46) : (fillX t h b).length = 64 := by
  unfold fillX
  rw [spl_len _ _ _ (by rw [spl_len _ _ _ (by simp [dig_length]; omega)]; simp [dig_length]), spl_len _ _ _ (by simp [dig_length]; omega)]
  simp [dig_length]
theorem fill_ok (n : Nat) (t h : Int) (h0 : 0 ≤ t) (h1 : t ≤ 1000000) (b : List Int) (hb : b.length ≤ 46) : lrun Try.prog C0 (lcall Try.prog C0 (n + 40)) (n + 40) 57 [.int .i64 t, .int .i64 h, .isl 1 (bys b)] ⟨0, []⟩ = some (.isl 1 (bys (fillX t h b)), ⟨0, []⟩) := by
  have hL := fillX_length t h b hb
  have E := fill_eq t h b
  have hT : (bys (fillX t h b)).take 64 = bys (fillX t h b) := List.take_of_length_le (by rw [bys_length, fillX_length t h b hb]; omega)
  have f1 := digits_ok (n + 19) t h0 h1
  have f2 : LObj.row 5 1 (lsplice (List.replicate 64 (LV.int IntKind.u8 0)) 0 (List.take 8 (List.take 8 (List.drop 0 [LV.int IntKind.u8 (u8 (Int.fdiv (Int.fdiv (Int.fdiv (Int.fdiv (Int.fdiv (Int.fdiv (Int.fdiv t 256) 256) 256) 256) 256) 256) 256)), LV.int IntKind.u8 (u8 (Int.fdiv (Int.fdiv (Int.fdiv (Int.fdiv (Int.fdiv (Int.fdiv t 256) 256) 256) 256) 256) 256)), LV.int IntKind.u8 (u8 (Int.fdiv (Int.fdiv (Int.fdiv (Int.fdiv (Int.fdiv t 256) 256) 256) 256) 256)), LV.int IntKind.u8 (u8 (Int.fdiv (Int.fdiv (Int.fdiv (Int.fdiv t 256) 256) 256) 256)), LV.int IntKind.u8 (u8 (Int.fdiv (Int.fdiv (Int.fdiv t 256) 256) 256)), LV.int IntKind.u8 (u8 (Int.fdiv (Int.fdiv t 256) 256)), LV.int IntKind.u8 (u8 (Int.fdiv t 256)), LV.int IntKind.u8 (u8 t)])))) = LObj.row 5 1 (lsplice (bys (List.replicate 64 0)) 0 [LV.int IntKind.u8 (u8 (Int.fdiv (Int.fdiv (Int.fdiv (Int.fdiv (Int.fdiv (Int.fdiv (Int.fdiv t 256) 256) 256) 256) 256) 256) 256)), LV.int IntKind.u8 (u8 (Int.fdiv (Int.fdiv (Int.fdiv (Int.fdiv (Int.fdiv (Int.fdiv t 256) 256) 256) 256) 256) 256)), LV.int IntKind.u8 (u8 (Int.fdiv (Int.fdiv (Int.fdiv (Int.fdiv (Int.fdiv t 256) 256) 256) 256) 256)), LV.int IntKind.u8 (u8 (Int.fdiv (Int.fdiv (Int.fdiv (Int.fdiv t 256) 256) 256) 256)), LV.int IntKind.u8 (u8 (Int.fdiv (Int.fdiv (Int.fdiv t 256) 256) 256)), LV.int IntKind.u8 (u8 (Int.fdiv (Int.fdiv t 256) 256)), LV.int IntKind.u8 (u8 (Int.fdiv t 256)), LV.int IntKind.u8 (u8 t)]) := by simp
  have f3 : okElems true 1 (sealL (bys b)) = true := by simp
  have f4 : 56 ≤ 64 := by omega
  have f5 : LV.int IntKind.i64 (↑(min (List.length (sealL (bys b))) 46) : Int) = LV.int IntKind.i64 (↑(List.length b) : Int) := by simp (disch := omega) [-List.reduceReplicate, spl_lenL, List.length_set]
  have f6 : LObj.row 5 1 (lsplice (List.set (List.set (lsplice (bys (List.replicate 64 0)) 0 [LV.int IntKind.u8 (u8 (Int.fdiv (Int.fdiv (Int.fdiv (Int.fdiv (Int.fdiv (Int.fdiv (Int.fdiv t 256) 256) 256) 256) 256) 256) 256)), LV.int IntKind.u8 (u8 (Int.fdiv (Int.fdiv (Int.fdiv (Int.fdiv (Int.fdiv (Int.fdiv t 256) 256) 256) 256) 256) 256)), LV.int IntKind.u8 (u8 (Int.fdiv (Int.fdiv (Int.fdiv (Int.fdiv (Int.fdiv t 256) 256) 256) 256) 256)), LV.int IntKind.u8 (u8 (Int.fdiv (Int.fdiv (Int.fdiv (Int.fdiv t 256) 256) 256) 256)), LV.int IntKind.u8 (u8 (Int.fdiv (Int.fdiv (Int.fdiv t 256) 256) 256)), LV.int IntKind.u8 (u8 (Int.fdiv (Int.fdiv t 256) 256)), LV.int IntKind.u8 (u8 (Int.fdiv t 256)), LV.int IntKind.u8 (u8 t)]) 8 (LV.int IntKind.u8 (IntKind.wrap IntKind.u8 (Int.fdiv h 256)))) 9 (LV.int IntKind.u8 (IntKind.wrap IntKind.u8 h))) 10 (List.take (min (List.length (sealL (bys b))) 46) (sealL (bys b)))) = LObj.row 5 1 (lsplice (List.set (List.set (lsplice (bys (List.replicate 64 0)) 0 [LV.int IntKind.u8 (u8 (Int.fdiv (Int.fdiv (Int.fdiv (Int.fdiv (Int.fdiv (Int.fdiv (Int.fdiv t 256) 256) 256) 256) 256) 256) 256)), LV.int IntKind.u8 (u8 (Int.fdiv (Int.fdiv (Int.fdiv (Int.fdiv (Int.fdiv (Int.fdiv t 256) 256) 256) 256) 256) 256)), LV.int IntKind.u8 (u8 (Int.fdiv (Int.fdiv (Int.fdiv (Int.fdiv (Int.fdiv t 256) 256) 256) 256) 256)), LV.int IntKind.u8 (u8 (Int.fdiv (Int.fdiv (Int.fdiv (Int.fdiv t 256) 256) 256) 256)), LV.int IntKind.u8 (u8 (Int.fdiv (Int.fdiv (Int.fdiv t 256) 256) 256)), LV.int IntKind.u8 (u8 (Int.fdiv (Int.fdiv t 256) 256)), LV.int IntKind.u8 (u8 (Int.fdiv t 256)), LV.int IntKind.u8 (u8 t)]) 8 (LV.int IntKind.u8 (IntKind.wrap IntKind.u8 (Int.fdiv h 256)))) 9 (LV.int IntKind.u8 (IntKind.wrap IntKind.u8 h))) 10 (bys b)) := by simp (disch := omega) [-List.reduceReplicate, spl_lenL, List.length_set]
  have f7 : 64 ≤ List.length (lsplice (List.set (List.set (lsplice (bys (List.replicate 64 0)) 0 [LV.int IntKind.u8 (u8 (Int.fdiv (Int.fdiv (Int.fdiv (Int.fdiv (Int.fdiv (Int.fdiv (Int.fdiv t 256) 256) 256) 256) 256) 256) 256)), LV.int IntKind.u8 (u8 (Int.fdiv (Int.fdiv (Int.fdiv (Int.fdiv (Int.fdiv (Int.fdiv t 256) 256) 256) 256) 256) 256)), LV.int IntKind.u8 (u8 (Int.fdiv (Int.fdiv (Int.fdiv (Int.fdiv (Int.fdiv t 256) 256) 256) 256) 256)), LV.int IntKind.u8 (u8 (Int.fdiv (Int.fdiv (Int.fdiv (Int.fdiv t 256) 256) 256) 256)), LV.int IntKind.u8 (u8 (Int.fdiv (Int.fdiv (Int.fdiv t 256) 256) 256)), LV.int IntKind.u8 (u8 (Int.fdiv (Int.fdiv t 256) 256)), LV.int IntKind.u8 (u8 (Int.fdiv t 256)), LV.int IntKind.u8 (u8 t)]) 8 (LV.int IntKind.u8 (IntKind.wrap IntKind.u8 (Int.fdiv h 256)))) 9 (LV.int IntKind.u8 (IntKind.wrap IntKind.u8 h))) 10 (bys b)) := by simp (disch := omega) [-List.reduceReplicate, spl_lenL, List.length_set]
  have f8 : true = true := by with_reducible rfl
  have f9 : (0 : Int) ≤ (56 : Int) ∧ (56 : Int) ≤ (64 : Int) ∧ (64 : Int) ≤ (64 : Int) := by omega
  have f10 : LV.int IntKind.i64 (↑(8 : Nat) : Int) = LV.int IntKind.i64 (8 : Int) := by simp
  have f11 : LObj.row 5 1 (lsplice (lsplice (List.set (List.set (lsplice (bys (List.replicate 64 0)) 0 [LV.int IntKind.u8 (u8 (Int.fdiv (Int.fdiv (Int.fdiv (Int.fdiv (Int.fdiv (Int.fdiv (Int.fdiv t 256) 256) 256) 256) 256) 256) 256)), LV.int IntKind.u8 (u8 (Int.fdiv (Int.fdiv (Int.fdiv (Int.fdiv (Int.fdiv (Int.fdiv t 256) 256) 256) 256) 256) 256)), LV.int IntKind.u8 (u8 (Int.fdiv (Int.fdiv (Int.fdiv (Int.fdiv (Int.fdiv t 256) 256) 256) 256) 256)), LV.int IntKind.u8 (u8 (Int.fdiv (Int.fdiv (Int.fdiv (Int.fdiv t 256) 256) 256) 256)), LV.int IntKind.u8 (u8 (Int.fdiv (Int.fdiv (Int.fdiv t 256) 256) 256)), LV.int IntKind.u8 (u8 (Int.fdiv (Int.fdiv t 256) 256)), LV.int IntKind.u8 (u8 (Int.fdiv t 256)), LV.int IntKind.u8 (u8 t)]) 8 (LV.int IntKind.u8 (IntKind.wrap IntKind.u8 (Int.fdiv h 256)))) 9 (LV.int IntKind.u8 (IntKind.wrap IntKind.u8 h))) 10 (bys b)) 56 (List.take 8 (List.take 8 (List.drop 0 [LV.int IntKind.u8 (u8 (Int.fdiv (Int.fdiv (Int.fdiv (Int.fdiv (Int.fdiv (Int.fdiv (Int.fdiv t 256) 256) 256) 256) 256) 256) 256)), LV.int IntKind.u8 (u8 (Int.fdiv (Int.fdiv (Int.fdiv (Int.fdiv (Int.fdiv (Int.fdiv t 256) 256) 256) 256) 256) 256)), LV.int IntKind.u8 (u8 (Int.fdiv (Int.fdiv (Int.fdiv (Int.fdiv (Int.fdiv t 256) 256) 256) 256) 256)), LV.int IntKind.u8 (u8 (Int.fdiv (Int.fdiv (Int.fdiv (Int.fdiv t 256) 256) 256) 256)), LV.int IntKind.u8 (u8 (Int.fdiv (Int.fdiv (Int.fdiv t 256) 256) 256)), LV.int IntKind.u8 (u8 (Int.fdiv (Int.fdiv t 256) 256)), LV.int IntKind.u8 (u8 (Int.fdiv t 256)), LV.int IntKind.u8 (u8 t)])))) = LObj.row 5 1 (bys (fillX t h b)) := by (simp [-List.reduceReplicate, spl_lenL, List.length_set]; omega)
  have f12 : (if 0 = 0 then if 1 = 1 ∧ 0 + 64 ≤ List.length (bys (fillX t h b)) ∧ capLe 64 none = true then LV.isl 1 (List.take 64 (List.drop 0 (bys (fillX t h b)))) else LV.any else LV.sl 1 0 0 64 none) = LV.isl 1 (bys (fillX t h b)) := by simp (disch := first | omega | (simp; omega)) [-List.reduceReplicate, spl_lenL, List.length_set, if_pos, if_neg]
  exact drun_ok (fun h => And.intro (f1) <| And.intro (congrArg some f2) <| And.intro (f3) <| And.intro (f4) <| And.intro (f5) <| And.intro (congrArg some f6) <| And.intro (f7) <| And.intro (f8) <| And.intro (f9) <| And.intro (f7) <| And.intro (f10) <| And.intro (congrArg some f11) <| And.intro (f12) <| h) (.s (.a) (.s (.a) (.s (.r [.a, .f (rOf f1)]) (.s (.a) (.s (.r [.a, .a, .a, .a, .a, .z [.x 0 (vOf f2)] (.a)]) (.s (.r [.a, .a, .a, .x 0 (vOf f6) (.v (vOf f5) (.q))]) (.s (.d [] [.a, .q, .a] [] [.x 0 (vOf f11) (.v (vOf f10) (.q))]) (.s (.r []) (.a))))))))) [.y 0 (vOf f12)] .a (by kernel_rfl)
end Go.Mac

namespace Go.Mac
open Go Go.Eng Go.Proofs
set_option linter.unusedVariables false
set_option maxHeartbeats 0
set_option maxRecDepth 100000
abbrev chO (base nx st : Int) : LObj := .box 106 [.ptr 1 0, .int .i64 base, .int .i64 nx, .int .i64 st]
abbrev ptE (b : List Int) (N nx head i : Int) : LEnv := [LV.ptr 0 0, LV.isl 1 (bys b), LV.any, LV.any, LV.any, LV.any, LV.int IntKind.i64 N, LV.int IntKind.i64 nx,
    LV.int IntKind.i64 head, LV.any, LV.any, LV.any, LV.any, LV.any, LV.any, LV.any, LV.any, LV.any, LV.any, LV.any,
    LV.any, LV.any, LV.any, LV.any, LV.any, LV.any, LV.any, LV.any, LV.any, LV.any, LV.any, LV.any, LV.any, LV.any,
    LV.any, LV.any, LV.any, LV.any, LV.any, LV.any, LV.any, LV.any, LV.any, LV.any, LV.any, LV.any,
    LV.int IntKind.i64 N, LV.int IntKind.i64 i, LV.any, LV.any, LV.any, LV.any, LV.any, LV.any, LV.any, LV.any, LV.any,
    LV.any, LV.any, LV.any, LV.any, LV.any, LV.any, LV.any, LV.any, LV.any, LV.any, LV.any, LV.any, LV.any, LV.any,
    LV.any, LV.any, LV.any, LV.any, LV.any, LV.any, LV.any, LV.any, LV.any, LV.any, LV.any, LV.any, LV.any, LV.any,
    LV.any, LV.any, LV.any, LV.any, LV.any, LV.any, LV.any, LV.any, LV.any, LV.any, LV.any, LV.any, LV.any, LV.any,
    LV.any, LV.any]
abbrev ptO (b : List Int) (i : Int) : Nat := (if ↑b.length < i * 46 then (↑b.length : Int) else i * 46).toNat
abbrev ptL (b : List Int) (i : Int) : Int := ↑(b.length - ptO b i)
abbrev ptP (b : List Int) (i : Int) : List Int := List.take (if 46 < ptL b i then 46 else ptL b i).toNat (List.drop (ptO b i) b)
abbrev ptX (b : List Int) (N nx head i : Int) : LEnv := [LV.ptr 0 0, LV.isl 1 (bys b), LV.any, LV.any, LV.any, LV.any, LV.int IntKind.i64 N, LV.int IntKind.i64 nx,
    LV.int IntKind.i64 head, LV.any, LV.any, LV.any, LV.any, LV.any, LV.any, LV.any, LV.any, LV.any, LV.any, LV.any,
    LV.any, LV.any, LV.any, LV.any, LV.any, LV.any, LV.any, LV.any, LV.any, LV.any, LV.any, LV.any, LV.any, LV.any,
    LV.any, LV.any, LV.any, LV.any, LV.any, LV.any, LV.any, LV.any, LV.any, LV.any, LV.any, LV.any,
    LV.int IntKind.i64 N, LV.int IntKind.i64 i, LV.bool (decide (i < N)), LV.any, LV.any, LV.any, LV.any, LV.any, LV.any, LV.any, LV.any,
    LV.any, LV.any, LV.any, LV.any, LV.any, LV.any, LV.any, LV.any, LV.any, LV.any, LV.any, LV.any, LV.any, LV.any,
    LV.any, LV.any, LV.any, LV.any, LV.any, LV.any, LV.any, LV.any, LV.any, LV.any, LV.any, LV.any, LV.any, LV.any,
    LV.any, LV.any, LV.any, LV.any, LV.any, LV.any, LV.any, LV.any, LV.any, LV.any, LV.any, LV.any, LV.any, LV.any,
    LV.any, LV.any]
theorem put_step (n fu : Nat) (base nx st rm N head i : Int) (m : List (Int × List Int)) (p p' : List (Int × Option (List Int))) (b X : List Int) (hb : b.length ≤ 3000) (hN : 1 ≤ N) (hN2 : N ≤ 100) (hnx : 0 ≤ nx) (hnx2 : nx ≤ 1000000) (hi : 0 ≤ i) (hi2 : i < N) (hh0 : 0 ≤ head) (hh1 : head ≤ 32768) (hs : 0 ≤ st) (hs2 : st ≤ 100000)
   (F : ∀ k, lrun Try.prog C0 (lcall Try.prog C0 (k + 40)) (k + 40) 57 [.int .i64 st, .int .i64 (bits .or .i64 head (ptL b i)), .isl 1 (bys (ptP b i))] ⟨0, []⟩ = some (.isl 1 (bys X), ⟨0, []⟩))
   (W : ∀ k, lrun Try.prog C0 (lcall Try.prog C0 (k + 20)) (k + 20) 20 [.ptr 0 0, .int .i64 (nx + i), .isl 1 (bys X)] ⟨1, [(0, dO rm m p)]⟩ = some (.nili, ⟨1, [(0, dO rm m p')]⟩))
   (r : LX × LEnv × St)
   (hr : loopAt Try.prog C0 (n + 60) 56 0 2 fu (ptE b N nx 0 (i + 1)) ⟨2, [(0, chO base nx (st + 1)), (1, dO rm m p')]⟩ = some r) :
   loopAt Try.prog C0 (n + 60) 56 0 2 (fu + 1) (ptE b N nx head i) ⟨2, [(0, chO base nx st), (1, dO rm m p)]⟩ = some r := by
  have f1 : decide (i < N) = true := by (simp [-List.reduceReplicate]; omega)
  have f2 : LV.int IntKind.i64 (IntKind.wrap IntKind.i64 (i * 46)) = LV.int IntKind.i64 (i * 46) := by simp (disch := omega) [-List.reduceReplicate]
  have f3 : LV.int IntKind.i64 (if false = true then if i * 46 < (↑(List.length (bys b)) : Int) then (↑(List.length (bys b)) : Int) else i * 46 else if (↑(List.length (bys b)) : Int) < i * 46 then (↑(List.length (bys b)) : Int) else i * 46) = LV.int IntKind.i64 (if (↑(List.length b) : Int) < i * 46 then (↑(List.length b) : Int) else i * 46) := by simp
  have f4 : LV.bool (decide (i < N)) = LV.bool true := by (simp [-List.reduceReplicate]; omega)
  have f5 : LV.int IntKind.i64 (↑(List.length (bys b)) : Int) = LV.int IntKind.i64 (↑(List.length b) : Int) := by simp
  have f6 : 0 ≤ Option.getD (some (if (↑(List.length b) : Int) < i * 46 then (↑(List.length b) : Int) else i * 46)) 0 ∧ Option.getD (some (if (↑(List.length b) : Int) < i * 46 then (↑(List.length b) : Int) else i * 46)) 0 ≤ Option.getD none (↑(List.length (bys b)) : Int) ∧ Option.getD none (↑(List.length (bys b)) : Int) ≤ (↑(List.length (bys b)) : Int) := by (simp [-List.reduceReplicate]; omega)
  have f7 : LV.isl 1 (List.drop (Int.toNat (Option.getD (some (if (↑(List.length b) : Int) < i * 46 then (↑(List.length b) : Int) else i * 46)) 0)) (List.take (Int.toNat (Option.getD none (↑(List.length (bys b)) : Int))) (bys b))) = LV.isl 1 (bys (List.drop (Int.toNat (if (↑(List.length b) : Int) < i * 46 then (↑(List.length b) : Int) else i * 46)) b)) := by simp
  have f8 : LObj.map IntKind.i64 (List.zip (mapK m) (mapV m)) = LObj.map IntKind.i64 (mapE m) := by simp
  have f9 : LObj.box 77 [LV.int IntKind.i64 rm, LV.map 2, LV.sl 2 3 0 (List.length (pnds p)) none] = LObj.box 77 [LV.int IntKind.i64 rm, LV.map 2, LV.sl 2 3 0 (List.length p) none] := by simp
  have f10 : LV.int IntKind.i64 (IntKind.wrap IntKind.i64 (nx + i)) = LV.int IntKind.i64 (nx + i) := by simp (disch := omega) [-List.reduceReplicate]
  have f11 : LV.int IntKind.i64 (↑(List.length (bys (List.drop (Int.toNat (if (↑(List.length b) : Int) < i * 46 then (↑(List.length b) : Int) else i * 46)) b))) : Int) = LV.int IntKind.i64 (↑(List.length b - Int.toNat (if (↑(List.length b) : Int) < i * 46 then (↑(List.length b) : Int) else i * 46)) : Int) := by simp
  have f12 : LV.int IntKind.i64 (if false = true then if (↑(List.length b - Int.toNat (if (↑(List.length b) : Int) < i * 46 then (↑(List.length b) : Int) else i * 46)) : Int) < 46 then 46 else (↑(List.length b - Int.toNat (if (↑(List.length b) : Int) < i * 46 then (↑(List.length b) : Int) else i * 46)) : Int) else if 46 < (↑(List.length b - Int.toNat (if (↑(List.length b) : Int) < i * 46 then (↑(List.length b) : Int) else i * 46)) : Int) then 46 else (↑(List.length b - Int.toNat (if (↑(List.length b) : Int) < i * 46 then (↑(List.length b) : Int) else i * 46)) : Int)) = LV.int IntKind.i64 (if 46 < (↑(List.length b - Int.toNat (if (↑(List.length b) : Int) < i * 46 then (↑(List.length b) : Int) else i * 46)) : Int) then 46 else (↑(List.length b - Int.toNat (if (↑(List.length b) : Int) < i * 46 then (↑(List.length b) : Int) else i * 46)) : Int)) := by simp
  have f13 : (0 : Int) ≤ (0 : Int) ∧ (0 : Int) ≤ Option.getD (some (if (46 : Int) < (↑(List.length b - Int.toNat (if (↑(List.length b) : Int) < i * (46 : Int) then (↑(List.length b) : Int) else i * (46 : Int))) : Int) then (46 : Int) else (↑(List.length b - Int.toNat (if (↑(List.length b) : Int) < i * (46 : Int) then (↑(List.length b) : Int) else i * (46 : Int))) : Int))) (↑(List.length (bys (List.drop (Int.toNat (if (↑(List.length b) : Int) < i * (46 : Int) then (↑(List.length b) : Int) else i * (46 : Int))) b))) : Int) ∧ Option.getD (some (if (46 : Int) < (↑(List.length b - Int.toNat (if (↑(List.length b) : Int) < i * (46 : Int) then (↑(List.length b) : Int) else i * (46 : Int))) : Int) then (46 : Int) else (↑(List.length b - Int.toNat (if (↑(List.length b) : Int) < i * (46 : Int) then (↑(List.length b) : Int) else i * (46 : Int))) : Int))) (↑(List.length (bys (List.drop (Int.toNat (if (↑(List.length b) : Int) < i * (46 : Int) then (↑(List.length b) : Int) else i * (46 : Int))) b))) : Int) ≤ (↑(List.length (bys (List.drop (Int.toNat (if (↑(List.length b) : Int) < i * (46 : Int) then (↑(List.length b) : Int) else i * (46 : Int))) b))) : Int) := by (simp [-List.reduceReplicate]; omega)
  have f14 : LV.isl 1 (List.drop 0 (List.take (Int.toNat (Option.getD (some (if 46 < (↑(List.length b - Int.toNat (if (↑(List.length b) : Int) < i * 46 then (↑(List.length b) : Int) else i * 46)) : Int) then 46 else (↑(List.length b - Int.toNat (if (↑(List.length b) : Int) < i * 46 then (↑(List.length b) : Int) else i * 46)) : Int))) (↑(List.length (bys (List.drop (Int.toNat (if (↑(List.length b) : Int) < i * 46 then (↑(List.length b) : Int) else i * 46)) b))) : Int))) (bys (List.drop (Int.toNat (if (↑(List.length b) : Int) < i * 46 then (↑(List.length b) : Int) else i * 46)) b)))) = LV.isl 1 (bys (List.take (Int.toNat (if 46 < (↑(List.length b - Int.toNat (if (↑(List.length b) : Int) < i * 46 then (↑(List.length b) : Int) else i * 46)) : Int) then 46 else (↑(List.length b - Int.toNat (if (↑(List.length b) : Int) < i * 46 then (↑(List.length b) : Int) else i * 46)) : Int))) (List.drop (Int.toNat (if (↑(List.length b) : Int) < i * 46 then (↑(List.length b) : Int) else i * 46)) b))) := by simp
  have f15 := F (n + 19)
  have f16 : List.length (pnds p) = List.length p := by simp
  have f17 : LObj.box 77 [LV.int IntKind.i64 rm, LV.omap IntKind.i64 (List.map (fun x => Prod.fst x) (mapE m)) (List.map (fun x => Prod.snd x) (mapE m)), LV.own 88 2 (pnds p)] = LObj.box 77 [LV.int IntKind.i64 rm, LV.omap IntKind.i64 (mapK m) (mapV m), LV.own 88 2 (pnds p)] := by simp
  have f18 := W (n + 39)
  have f19 : LV.int IntKind.i64 (IntKind.wrap IntKind.i64 (st + 1)) = LV.int IntKind.i64 (st + 1) := by simp (disch := omega) [-List.reduceReplicate]
  have f20 : LV.int IntKind.i64 (IntKind.wrap IntKind.i64 (i + 1)) = LV.int IntKind.i64 (i + 1) := by simp (disch := omega) [-List.reduceReplicate]
  have f21 := hr
  exact dloop_ok (fun h => And.intro (congrArg LV.bool f1) <| And.intro (f2) <| And.intro (f3) <| And.intro (f4) <| And.intro (f5) <| And.intro (f6) <| And.intro (f7) <| And.intro (congrArg some f8) <| And.intro (congrArg some f9) <| And.intro (f10) <| And.intro (f11) <| And.intro (f11) <| And.intro (f12) <| And.intro (f13) <| And.intro (f14) <| And.intro (f15) <| And.intro (f16) <| And.intro (congrArg some f17) <| And.intro (f18) <| And.intro (f19) <| And.intro (f20) <| And.intro (Eq.refl (tidyOf f21)) <| And.intro (f21) <| h) (.i (.s (.a) (.s (.b true (.a)) (.s (.k (.s (.a) (.s (.r [.a, .a, .v (vOf f2) (.a), .a, .a, .v (vOf f3) (.a), .z [.y 48 (vOf f4), .y 54 (vOf f5)] (.v (vOf f7) (.q))]) (.s (.s (.d [.x 2 (vOf f8), .x 1 (vOf f9)] [.a, .a, .a, .a, .a, .a, .v (vOf f10) (.a), .a, .a, .a, .a, .a, .a, .v (vOf f11) (.a), .a, .a, .a, .v (vOf f11) (.a), .v (vOf f12) (.a), .v (vOf f14) (.q), .f (rOf f15)] [] [.fr .q [.x 1 (vOf f17)] (rOf f18)]) (.s (.r []) (.a))) (.s (.r []) (.r [.a, .a, .a, .a, .v (vOf f19) (.a)])))))) (.r [.v (vOf f20) (.a)])))) (.h [] (eOf f21) (stOf f21) (rOf f21))) (by kernel_rfl)
theorem put_end (n fu : Nat) (base nx st rm N head : Int) (m : List (Int × List Int)) (p : List (Int × Option (List Int))) (b : List Int) (hb : b.length ≤ 3000) (hN : 1 ≤ N) (hN2 : N ≤ 100) (hnx : 0 ≤ nx) (hnx2 : nx ≤ 1000000) :
   loopAt Try.prog C0 (n + 60) 56 0 2 (fu + 1) (ptE b N nx head N) ⟨2, [(0, chO base nx st), (1, dO rm m p)]⟩ = some (.exit 0, ptX b N nx head N, ⟨2, [(0, chO base nx st), (1, dO rm m p)]⟩) := by
  have f1 : decide (N < N) = false := by simp
  exact dloop_ok (fun h => And.intro (congrArg LV.bool f1) <| h) (.i (.s (.a) (.s (.b false (.a)) .a)) (.a)) (by kernel_rfl)
theorem put_thru (n : Nat) (base nx st st' rm u N : Int) (m : List (Int × List Int)) (p p' : List (Int × Option (List Int))) (b : List Int) (hb : b.length ≤ 3000) (hN : 1 ≤ N) (hN2 : N ≤ 100) (hu : 0 ≤ u) (hu2 : u ≤ 5000) (hrm2 : rm ≤ 4000) (hnx : 0 ≤ nx) (hnx2 : nx ≤ 1000000) (hok : u + N ≤ rm)
   (B : ∀ k, lrun Try.prog C0 (lcall Try.prog C0 (k + 20)) (k + 20) 32 [.int .i64 (bys b).length] ⟨0, []⟩ = some (.int .i64 N, ⟨0, []⟩))
   (U : ∀ k, lrun Try.prog C0 (lcall Try.prog C0 (k + 20)) (k + 20) 34 [.ptr 0 0] ⟨1, [(0, dO rm m p)]⟩ = some (.int .i64 u, ⟨1, [(0, dO rm m p)]⟩))
   (L : loopAt Try.prog C0 (n + 60) 56 0 2 (n + 60) (ptE b N nx 32768 0) ⟨2, [(0, chO base nx st), (1, dO rm m p)]⟩ = some (.exit 0, ptX b N nx 0 N, ⟨2, [(0, chO base nx st'), (1, dO rm m p')]⟩)) :
   lrun Try.prog C0 (lcall Try.prog C0 (n + 60)) (n + 60) 56 [.ptr 0 0, .isl 1 (bys b)] ⟨2, [(0, chO base nx st), (1, dO rm m p)]⟩ = some (.tup [.int .i64 nx, .nili], ⟨2, [(0, chO base (nx + N) st'), (1, dO rm m p')]⟩) := by
  have f1 := B (n + 39)
  have f2 : LV.int IntKind.i64 (↑(List.length (bys b)) : Int) = LV.int IntKind.i64 (↑(List.length b) : Int) := by simp
  have f3 : LObj.map IntKind.i64 (List.zip (mapK m) (mapV m)) = LObj.map IntKind.i64 (mapE m) := by simp
  have f4 : LObj.box 77 [LV.int IntKind.i64 rm, LV.map 2, LV.sl 2 3 0 (List.length (pnds p)) none] = LObj.box 77 [LV.int IntKind.i64 rm, LV.map 2, LV.sl 2 3 0 (List.length p) none] := by simp
  have f5 : List.length (pnds p) = List.length p := by simp
  have f6 : LObj.box 77 [LV.int IntKind.i64 rm, LV.omap IntKind.i64 (List.map (fun x => Prod.fst x) (mapE m)) (List.map (fun x => Prod.snd x) (mapE m)), LV.own 88 2 (pnds p)] = LObj.box 77 [LV.int IntKind.i64 rm, LV.omap IntKind.i64 (mapK m) (mapV m), LV.own 88 2 (pnds p)] := by simp
  have f7 := U (n + 39)
  have f8 : LV.int IntKind.i64 (IntKind.wrap IntKind.i64 (u + N)) = LV.int IntKind.i64 (u + N) := by simp (disch := omega) [-List.reduceReplicate]
  have f9 := room_ok (n + 39) rm m p
  have f10 : decide (rm < u + N) = false := by (simp [-List.reduceReplicate]; omega)
  have f11 : LV.int IntKind.i64 (IntKind.wrap IntKind.i64 (nx + N)) = LV.int IntKind.i64 (nx + N) := by simp (disch := omega) [-List.reduceReplicate]
  have f12 : LV.bool (if decide (rm < u + N) = true then true else decide (1073741824 < nx + N)) = LV.bool false := by (simp [-List.reduceReplicate]; omega)
  have f13 := L
  exact drun_ok (fun h => And.intro (f1) <| And.intro (f2) <| And.intro (congrArg some f3) <| And.intro (congrArg some f4) <| And.intro (f5) <| And.intro (congrArg some f6) <| And.intro (f7) <| And.intro (f8) <| And.intro (f9) <| And.intro (congrArg some f10) <| And.intro (congrArg some f10) <| And.intro (congrArg some f10) <| And.intro (congrArg some f10) <| And.intro (congrArg some f10) <| And.intro (congrArg some f10) <| And.intro (f11) <| And.intro (congrArg some f10) <| And.intro (f12) <| And.intro (Eq.refl (tidyOf f13)) <| And.intro (f13) <| And.intro (f11) <| h) (.s (.a) (.s (.r [.a, .a, .f (rOf f1)]) (.s (.s (.d [.y 13 (vOf f2), .x 2 (vOf f3), .x 1 (vOf f4)] [.a, .a, .a, .a, .fr .q [.x 1 (vOf f6)] (rOf f7), .a, .v (vOf f8) (.a), .a, .a, .a, .a, .f (rOf f9), .a, .a, .g false (.a), .g false (.a), .g false (.a), .g false (.a), .g false (.a)] [] [.g false (.v (vOf f11) (.a)), .g false (.a), .v (vOf f12) (.a)]) (.a)) (.s (.a) (.s (.s (.a) (.k (.l (.h [] (eOf f13) (stOf f13) (rOf f13))))) (.s (.r [.a, .a, .a, .v (vOf f11) (.a)]) (.a))))))) [] .a (by kernel_rfl)
theorem put_full (n : Nat) (base nx st rm u N : Int) (m : List (Int × List Int)) (p : List (Int × Option (List Int))) (b : List Int) (hb : b.length ≤ 3000) (hN : 1 ≤ N) (hN2 : N ≤ 100) (hu : 0 ≤ u) (hu2 : u ≤ 5000) (hrm2 : rm ≤ 4000) (hnx : 0 ≤ nx) (hnx2 : nx ≤ 1000000) (hok : rm < u + N)
   (B : ∀ k, lrun Try.prog C0 (lcall Try.prog C0 (k + 20)) (k + 20) 32 [.int .i64 (bys b).length] ⟨0, []⟩ = some (.int .i64 N, ⟨0, []⟩))
   (U : ∀ k, lrun Try.prog C0 (lcall Try.prog C0 (k + 20)) (k + 20) 34 [.ptr 0 0] ⟨1, [(0, dO rm m p)]⟩ = some (.int .i64 u, ⟨1, [(0, dO rm m p)]⟩)) :
   lrun Try.prog C0 (lcall Try.prog C0 (n + 60)) (n + 60) 56 [.ptr 0 0, .isl 1 (bys b)] ⟨2, [(0, chO base nx st), (1, dO rm m p)]⟩ = some (.tup [.int .i64 0, .ifc 115 (.agg [.str [97,112,112,101,110,100], .int .i64 nx, .ifc 71 (.int .i64 7)])], ⟨2, [(0, chO base nx st), (1, dO rm m p)]⟩) := by
  have f1 := B (n + 39)
  have f2 : LV.int IntKind.i64 (↑(List.length (bys b)) : Int) = LV.int IntKind.i64 (↑(List.length b) : Int) := by simp
  have f3 : LObj.map IntKind.i64 (List.zip (mapK m) (mapV m)) = LObj.map IntKind.i64 (mapE m) := by simp
  have f4 : LObj.box 77 [LV.int IntKind.i64 rm, LV.map 2, LV.sl 2 3 0 (List.length (pnds p)) none] = LObj.box 77 [LV.int IntKind.i64 rm, LV.map 2, LV.sl 2 3 0 (List.length p) none] := by simp
  have f5 : List.length (pnds p) = List.length p := by simp
  have f6 : LObj.box 77 [LV.int IntKind.i64 rm, LV.omap IntKind.i64 (List.map (fun x => Prod.fst x) (mapE m)) (List.map (fun x => Prod.snd x) (mapE m)), LV.own 88 2 (pnds p)] = LObj.box 77 [LV.int IntKind.i64 rm, LV.omap IntKind.i64 (mapK m) (mapV m), LV.own 88 2 (pnds p)] := by simp
  have f7 := U (n + 39)
  have f8 : LV.int IntKind.i64 (IntKind.wrap IntKind.i64 (u + N)) = LV.int IntKind.i64 (u + N) := by simp (disch := omega) [-List.reduceReplicate]
  have f9 := room_ok (n + 39) rm m p
  have f10 : decide (rm < u + N) = true := by (simp [-List.reduceReplicate]; omega)
  have f11 : lpick (decide (rm < u + N)) (LV.bool true) LV.any = some (LV.bool true) := by (simp [-List.reduceReplicate]; omega)
  exact drun_ok (fun h => And.intro (f1) <| And.intro (f2) <| And.intro (congrArg some f3) <| And.intro (congrArg some f4) <| And.intro (f5) <| And.intro (congrArg some f6) <| And.intro (f7) <| And.intro (f8) <| And.intro (f9) <| And.intro (congrArg some f10) <| And.intro (congrArg some f10) <| And.intro (congrArg some f10) <| And.intro (congrArg some f10) <| And.intro (congrArg some f10) <| And.intro (congrArg some f10) <| And.intro (congrArg some f10) <| And.intro (x_map (st := (St.mk 4 [(1, LObj.box 77 [LV.int IntKind.i64 rm, LV.omap IntKind.i64 (mapK m) (mapV m), LV.own 88 2 (pnds p)]), (0, LObj.box 106 [LV.ptr 1 0, LV.int IntKind.i64 base, LV.int IntKind.i64 nx, LV.int IntKind.i64 st])])) f11) <| h) (.s (.a) (.s (.r [.a, .a, .f (rOf f1)]) (.s (.s (.d [.y 13 (vOf f2), .x 2 (vOf f3), .x 1 (vOf f4)] [.a, .a, .a, .a, .fr .q [.x 1 (vOf f6)] (rOf f7), .a, .v (vOf f8) (.a), .a, .a, .a, .a, .f (rOf f9), .a, .a, .g true (.a), .g true (.a), .g true (.a), .g true (.a), .g true (.a)] [] [.g true (.a), .g true (.a), .t (rOf (x_map (st := (St.mk 4 [(1, LObj.box 77 [LV.int IntKind.i64 rm, LV.omap IntKind.i64 (mapK m) (mapV m), LV.own 88 2 (pnds p)]), (0, LObj.box 106 [LV.ptr 1 0, LV.int IntKind.i64 base, LV.int IntKind.i64 nx, LV.int IntKind.i64 st])])) f11))]) (.a)) .a))) [] .a (by kernel_rfl)
end Go.Mac

namespace Go.Mac
open Go Go.Eng Go.Proofs
set_option linter.unusedVariables false
set_option maxRecDepth 100000
def hdJ : Nat → Int
  | 0 => 32768
  | _ + 1 => 0
def putX (st : Int) (b : List Int) (j : Nat) : List Int := fillX (st + (j : Int)) (bits .or .i64 (hdJ j) (ptL b (j : Int))) (ptP b (j : Int))
def putP (st nx : Int) (b : List Int) (p : List (Int × Option (List Int))) : Nat → List (Int × Option (List Int))
  | 0 => p
  | j + 1 => putP st nx b p j ++ [(nx + (j : Int), some (putX st b j))]
theorem ptP_length (b : List Int) (i : Int) : (ptP b i).length ≤ 46 := by
  unfold ptP
  rw [List.length_take]
  split <;> omega
theorem putX_length (st : Int) (b : List Int) (j : Nat) : (putX st b j).length = 64 := fillX_length _ _ _ (ptP_length b j)
theorem putP_length (st nx : Int) (b : List Int) (p : List (Int × Option (List Int))) : ∀ j, (putP st nx b p j).length = p.length + j
  | 0 => rfl
  | j + 1 => by rw [putP, List.length_append, putP_length st nx b p j]; rfl
theorem okP_app {p q : List (Int × Option (List Int))} (h1 : okP p) (h2 : okP q) : okP (p ++ q) := fun x hx => (List.mem_append.1 hx).elim (h1 x) (h2 x)
theorem okP_one {a : Int} {b : List Int} (h : b.length = 64) : okP [(a, some b)] := by
  intro x hx c hc
  rw [List.mem_singleton.1 hx] at hc
  cases hc
  rintro rfl
  simp at h
theorem okP_putP (st nx : Int) (b : List Int) (p : List (Int × Option (List Int))) (h : okP p) : ∀ j, okP (putP st nx b p j)
  | 0 => h
  | j + 1 => okP_app (okP_putP st nx b p h j) (okP_one (putX_length st b j))
theorem put_loop (n : Nat) (base nx st rm : Int) (N : Nat) (m : List (Int × List Int)) (p : List (Int × Option (List Int))) (b : List Int) (hb : b.length ≤ 3000) (hN : 1 ≤ N) (hN2 : N ≤ 100) (hnx : 0 ≤ nx) (hnx2 : nx ≤ 1000000) (hs : 0 ≤ st) (hs2 : st ≤ 90000)
   (W : ∀ j, j < N → ∀ k, lrun Try.prog C0 (lcall Try.prog C0 (k + 20)) (k + 20) 20 [.ptr 0 0, .int .i64 (nx + (j : Int)), .isl 1 (bys (putX st b j))] ⟨1, [(0, dO rm m (putP st nx b p j))]⟩ = some (.nili, ⟨1, [(0, dO rm m (putP st nx b p (j + 1)))]⟩)) :
   ∀ (q j fu : Nat), j + q = N → q < fu → 
   loopAt Try.prog C0 (n + 60) 56 0 2 fu (ptE b N nx (hdJ j) j) ⟨2, [(0, chO base nx (st + j)), (1, dO rm m (putP st nx b p j))]⟩ = some (.exit 0, ptX b N nx 0 N, ⟨2, [(0, chO base nx (st + N)), (1, dO rm m (putP st nx b p N))]⟩)
  | 0, j, fu, h, hf => by
    obtain ⟨fu, rfl⟩ : ∃ k, fu = k + 1 := ⟨fu - 1, by omega⟩
    have e : j = N := by omega
    subst e
    obtain ⟨i, rfl⟩ : ∃ i, j = i + 1 := ⟨j - 1, by omega⟩
    exact put_end n fu base nx (st + ((i + 1 : Nat) : Int)) rm _ (hdJ (i + 1)) m _ b hb (by omega) (by omega) hnx hnx2
  | q + 1, j, fu, h, hf => by
    obtain ⟨fu, rfl⟩ : ∃ k, fu = k + 1 := ⟨fu - 1, by omega⟩
    have ih := put_loop n base nx st rm N m p b hb hN hN2 hnx hnx2 hs hs2 W q (j + 1) fu (by omega) (by omega)
    have h1 : 0 ≤ hdJ j ∧ hdJ j ≤ 32768 := by cases j <;> simp [hdJ]
    refine put_step n fu base nx (st + j) rm N (hdJ j) j m (putP st nx b p j) (putP st nx b p (j + 1)) b (putX st b j) hb (by omega) (by omega) hnx hnx2 (by omega) (by omega) h1.1 h1.2 (by omega) (by omega)
      (fun k => fill_ok k (st + j) _ (by omega) (by omega) _ (ptP_length b j)) (W j (by omega)) _ ?_
    have e1 : ((j + 1 : Nat) : Int) = (j : Int) + 1 := by omega
    rw [e1, ← Int.add_assoc] at ih
    exact ih
/-! what is taken -/
theorem pendN_app (q : List LV) : ∀ (p : List (Int × Option (List Int))) (m : List (Int × LV)), pendN (pnds p ++ q) m = pendN q (pendN (pnds p) m)
  | [], m => rfl
  | (a, none) :: p, m => pendN_app q p m
  | (a, some b) :: p, m => pendN_app q p (kinc m a)
theorem needs_app (m : List (Int × List Int)) (p : List (Int × Option (List Int))) (a : Int) (b : List Int) : needs m (p ++ [(a, some b)]) = kinc (needs m p) a := by
  unfold needs
  rw [show pnds (p ++ [(a, some b)]) = pnds p ++ pnds [(a, some b)] by simp, pendN_app]
  rfl
/-- A store that has the blocks below a number, and no others. -/
structure Upto (p : List (Int × Option (List Int))) (k : Nat) : Prop where
  ok : okP p
  len : (needs [] p).length = k
  keys : ∀ x ∈ (needs [] p).map (·.1), x < (k : Int)
theorem Upto.none {p k} (h : Upto p k) : kget (needs [] p) (k : Int) = none := kget_none fun hm => by have := h.keys _ hm; omega
theorem kins_length : ∀ (es : List (Int × LV)) (n : Int) (x : LV), (kins es n x).length = es.length + 1
  | [], n, x => rfl
  | (k, v) :: l, n, x => by
    unfold kins
    split
    · rfl
    · rw [List.length_cons, kins_length l n x]; rfl
theorem Upto.step {p k} (h : Upto p k) {b : List Int} (hb : b.length = 64) : Upto (p ++ [((k : Int), some b)]) (k + 1) := by
  have e : needs [] (p ++ [((k : Int), some b)]) = kins (needs [] p) k (.int .i64 1) := by
    rw [needs_app]
    unfold kinc
    rw [h.none]
    unfold kput
    rw [h.none]
    rfl
  refine ⟨okP_app h.ok (okP_one hb), ?_, ?_⟩
  · rw [e, kins_length, h.len]
  · intro x hx
    rw [e] at hx
    have := ((kins_perm (needs [] p) k (.int .i64 1)).map (·.1)).mem_iff.1 hx
    rcases List.mem_cons.1 this with rfl | h2
    · show (k : Int) < _; omega
    · have := h.keys x h2; omega
theorem Upto.putP {p k} (h : Upto p k) (st : Int) (b : List Int) : ∀ j, Upto (putP st (k : Int) b p j) (k + j)
  | 0 => h
  | j + 1 => by
    have := (Upto.putP h st b j).step (putX_length st b j)
    rw [show ((k + j : Nat) : Int) = (k : Int) + (j : Int) by omega] at this
    exact this
def blksN (a : Nat) : Nat := if (a + 45) / 46 < 1 then 1 else (a + 45) / 46
theorem blocks_nat (k : Nat) (b : List Int) (hb : b.length ≤ 3000) : lrun Try.prog C0 (lcall Try.prog C0 (k + 20)) (k + 20) 32 [.int .i64 (bys b).length] ⟨0, []⟩ = some (.int .i64 (blksN b.length), ⟨0, []⟩) := by
  have := blocks_ok k (b.length : Int) (by omega) (by omega)
  rw [bys_length, this]
  have e : ((b.length : Int) + 45).tdiv 46 = (((b.length + 45) / 46 : Nat) : Int) := by
    rw [Int.tdiv_eq_ediv_of_nonneg (by omega)]; omega
  rw [e]
  unfold blksN
  congr 3
  split <;> split <;> omega
theorem blksN_pos (a : Nat) : 1 ≤ blksN a := by unfold blksN; split <;> omega
theorem blksN_le (a : Nat) (h : a ≤ 3000) : blksN a ≤ 100 := by unfold blksN; split <;> omega
theorem put_fits (n : Nat) (base st rm : Int) (k : Nat) (p : List (Int × Option (List Int))) (b : List Int) (hb : b.length ≤ 3000) (hp : p.length ≤ 10000) (hrm : rm ≤ 4000) (hs : 0 ≤ st) (hs2 : st ≤ 90000) (h : Upto p k) (hok : (k : Int) + blksN b.length ≤ rm) (hn : 100 < n + 60) :
   lrun Try.prog C0 (lcall Try.prog C0 (n + 60)) (n + 60) 56 [.ptr 0 0, .isl 1 (bys b)] ⟨2, [(0, chO base k st), (1, dO rm [] p)]⟩ = some (.tup [.int .i64 k, .nili], ⟨2, [(0, chO base (k + (blksN b.length : Int)) (st + (blksN b.length : Int))), (1, dO rm [] (putP st k b p (blksN b.length)))]⟩) := by
  have hN := blksN_pos b.length
  have hN2 := blksN_le b.length hb
  refine put_thru n base k st (st + (blksN b.length : Int)) rm k (blksN b.length) [] p _ b hb (by omega) (by omega) (by omega) (by omega) hrm (by omega) (by omega) hok (fun i => blocks_nat i b hb) (fun i => by rw [used_ok i rm [] p (by omega) h.ok, h.len]) ?_
  have L := put_loop n base k st rm (blksN b.length) [] p b hb hN hN2 (by omega) (by omega) hs hs2 (fun j hj i => ?_) (blksN b.length) 0 (n + 60) (by omega) (by omega)
  · simpa [hdJ, putP] using L
  · have U := h.putP st b j
    have hl := putP_length st k b p j
    have := write_new i (k + (j : Int)) (putX st b j) rm [] (putP st k b p j) (by omega) (by omega) (by rw [putX_length]; omega) (by omega) U.ok (by
      have := U.none
      rwa [show ((k + j : Nat) : Int) = (k : Int) + (j : Int) by omega] at this) (by rw [U.len]; omega)
    rw [this]
    have e : spliceI (List.replicate 64 0) 0 (putX st b j) = putX st b j := by
      unfold spliceI
      rw [putX_length]; simp
    rw [e]; rfl
theorem put_out (n : Nat) (base st rm : Int) (k : Nat) (p : List (Int × Option (List Int))) (b : List Int) (hb : b.length ≤ 3000) (hp : p.length ≤ 10000) (hk : k ≤ 4000) (hrm : rm ≤ 4000) (h : Upto p k) (hok : rm < (k : Int) + blksN b.length) :
   lrun Try.prog C0 (lcall Try.prog C0 (n + 60)) (n + 60) 56 [.ptr 0 0, .isl 1 (bys b)] ⟨2, [(0, chO base k st), (1, dO rm [] p)]⟩ = some (.tup [.int .i64 0, .ifc 115 (.agg [.str [97,112,112,101,110,100], .int .i64 k, .ifc 71 (.int .i64 7)])], ⟨2, [(0, chO base k st), (1, dO rm [] p)]⟩) := by
  have hN := blksN_pos b.length
  have hN2 := blksN_le b.length hb
  exact put_full n base k st rm k (blksN b.length) [] p b hb (by omega) (by omega) (by omega) (by omega) hrm (by omega) (by omega) hok (fun i => blocks_nat i b hb) (fun i => by rw [used_ok i rm [] p (by omega) h.ok, h.len])
end Go.Mac

namespace Go.Mac
open Go Go.Eng Go.Proofs
set_option linter.unusedVariables false
set_option maxHeartbeats 0
set_option maxRecDepth 100000
theorem append_thru (n : Nat) (b : List Int) (hb0 : 0 < b.length) (hb : b.length ≤ 3000) (base nx st nx' st' rm : Int) (m : List (Int × List Int)) (p p' : List (Int × Option (List Int)))
   (T : ∀ k, lrun Try.prog C0 (lcall Try.prog C0 (k + 102)) (k + 102) 56 [.ptr 0 0, .isl 1 (bys b)] ⟨2, [(0, chO base nx st), (1, dO rm m p)]⟩ = some (.tup [.int .i64 nx, .nili], ⟨2, [(0, chO base nx' st'), (1, dO rm m p')]⟩)) :
   lrun Try.prog C0 (lcall Try.prog C0 (n + 165)) (n + 165) 29 [.ptr 0 0, .isl 1 (bys b)] ⟨2, [(0, chO base nx st), (1, dO rm m p)]⟩ = some (.tup [.int .i64 nx, .nili], ⟨2, [(0, chO base nx' st'), (1, dO rm m p')]⟩) := by
  have hne : b ≠ [] := by rintro rfl; simp at hb0
  have f1 : decide ((↑(List.length (bys b)) : Int) = 0) = false := by (simp [-List.reduceReplicate]; omega)
  have f2 : LV.bool (if decide ((↑(List.length (bys b)) : Int) = 0) = true then true else decide (16448 < (↑(List.length (bys b)) : Int))) = LV.bool false := by (simp [-List.reduceReplicate, hb0, hb, hne]; omega)
  have f3 := T (n + 62)
  exact drun_ok (fun h => And.intro (congrArg some f1) <| And.intro (congrArg some f1) <| And.intro (congrArg some f1) <| And.intro (f2) <| And.intro (f3) <| h) (.s (.a) (.s (.s (.r [.a, .a, .a, .a, .g false (.a), .g false (.a), .g false (.a), .v (vOf f2) (.a)]) (.a)) (.s (.r [.a, .a, .f (rOf f3)]) (.a)))) [] .a (by kernel_rfl)
abbrev fullE (nx : Int) : LV := .ifc 115 (.agg [.str [97,112,112,101,110,100], .int .i64 nx, .ifc 71 (.int .i64 7)])
theorem append_full (n : Nat) (b : List Int) (hb0 : 0 < b.length) (hb : b.length ≤ 3000) (base nx st rm : Int) (m : List (Int × List Int)) (p : List (Int × Option (List Int)))
   (T : ∀ k, lrun Try.prog C0 (lcall Try.prog C0 (k + 102)) (k + 102) 56 [.ptr 0 0, .isl 1 (bys b)] ⟨2, [(0, chO base nx st), (1, dO rm m p)]⟩ = some (.tup [.int .i64 0, fullE nx], ⟨2, [(0, chO base nx st), (1, dO rm m p)]⟩)) :
   lrun Try.prog C0 (lcall Try.prog C0 (n + 165)) (n + 165) 29 [.ptr 0 0, .isl 1 (bys b)] ⟨2, [(0, chO base nx st), (1, dO rm m p)]⟩ = some (.tup [.int .i64 0, fullE nx], ⟨2, [(0, chO base nx st), (1, dO rm m p)]⟩) := by
  have hne : b ≠ [] := by rintro rfl; simp at hb0
  have f1 : decide ((↑(List.length (bys b)) : Int) = 0) = false := by (simp [-List.reduceReplicate]; omega)
  have f2 : LV.bool (if decide ((↑(List.length (bys b)) : Int) = 0) = true then true else decide (16448 < (↑(List.length (bys b)) : Int))) = LV.bool false := by (simp [-List.reduceReplicate, hb0, hb, hne]; omega)
  have f3 := T (n + 62)
  exact drun_ok (fun h => And.intro (congrArg some f1) <| And.intro (congrArg some f1) <| And.intro (congrArg some f1) <| And.intro (f2) <| And.intro (f3) <| h) (.s (.a) (.s (.s (.r [.a, .a, .a, .a, .g false (.a), .g false (.a), .g false (.a), .v (vOf f2) (.a)]) (.a)) (.s (.r [.a, .a, .f (rOf f3)]) (.a)))) [] .a (by kernel_rfl)
theorem next_ok (n : Nat) (base nx st rm : Int) (m : List (Int × List Int)) (p : List (Int × Option (List Int))) : lrun Try.prog C0 (lcall Try.prog C0 (n + 10)) (n + 10) 35 [.ptr 0 0] ⟨2, [(0, chO base nx st), (1, dO rm m p)]⟩ = some (.int .i64 nx, ⟨2, [(0, chO base nx st), (1, dO rm m p)]⟩) := by
  exact drun_ok (fun h => h) (.a) [] .a (by kernel_rfl)
theorem open_empty (n : Nat) (rm : Int) (h0 : 0 ≤ rm) (h1 : rm ≤ 255) : lrun Try.prog C0 (lcall Try.prog C0 (n + 100)) (n + 100) 28 [.ptr 0 0, .int .i64 0, .int .i64 0] ⟨1, [(0, dO rm [] [])]⟩ = some (.tup [.ptr 1 0, .isl 2 [], .nili], ⟨2, [(0, dO rm [] []), (1, .box 106 [.ptr 0 0, .int .i64 0, .int .i64 0, .int .i64 1])]⟩) := by
  have R : ∀ k, lrun Try.prog C0 (lcall Try.prog C0 k) k 21 [.ptr 0 0, .int .i64 0] ⟨1, [(0, dO rm [] [])]⟩ = some (.tup [.isl 1 (bys (List.replicate 64 0)), .nili], ⟨1, [(0, dO rm [] [])]⟩) := fun k => dread_ok k rm [] [] 0 (by omega) (by omega) (by simp) (fun x hx => nomatch hx)
  have C := fun k => cells_none k rm []
  have f1 := C (n + 39)
  exact drun_ok (fun h => And.intro (f1) <| h) (.s (.a) (.s (.a) (.s (.a) (.s (.a) (.s (.a) (.s (.a) (.s (.a) (.s (.s (.r [.a, .f (rOf f1)]) (.a)) (.a))))))))) [] .a (by kernel_rfl)
end Go.Mac

namespace Go.Mac
open Go Go.Eng Go.Proofs
set_option linter.unusedVariables false
set_option maxHeartbeats 0
set_option maxRecDepth 100000
abbrev zb (a : Int) : List Int := List.replicate (a.tmod 2000).toNat 0
theorem full_oo (n : Nat) (rm a b NA NB s1 s2 : Int) (p1 p2 : List (Int × Option (List Int))) (h0 : 0 ≤ rm) (h1 : rm ≤ 255) (ha : 0 ≤ a) (ha2 : a ≤ 65535) (hb : 0 ≤ b) (hb2 : b ≤ 65535) (ha0 : 0 < a.tmod 2000) (hb0 : 0 < b.tmod 2000) (ha3 : a.tmod 2000 < 2000) (hb3 : b.tmod 2000 < 2000)
  (hNA : 1 ≤ NA) (hNA2 : NA ≤ 60) (hNB : 1 ≤ NB) (hNB2 : NB ≤ 60) (q1 : a.tmod 2000 ≤ NA * 46) (q2 : (NA - 1) * 46 < a.tmod 2000) (g1 : NA ≤ rm) (g2 : NA + NB ≤ rm)
  (A1 : ∀ k, lrun Try.prog C0 (lcall Try.prog C0 (k + 165)) (k + 165) 29 [.ptr 0 0, .isl 1 (bys (zb a))] ⟨2, [(0, chO 0 0 1), (1, dO rm [] [])]⟩ = some (.tup [.int .i64 0, .nili], ⟨2, [(0, chO 0 NA s1), (1, dO rm [] p1)]⟩))
  (A2 : ∀ k, lrun Try.prog C0 (lcall Try.prog C0 (k + 165)) (k + 165) 29 [.ptr 0 0, .isl 1 (bys (zb b))] ⟨2, [(0, chO 0 NA s1), (1, dO rm [] p1)]⟩ = some (.tup [.int .i64 NA, .nili], ⟨2, [(0, chO 0 (NA + NB) s2), (1, dO rm [] p2)]⟩))
  (BA : ∀ k, lrun Try.prog C0 (lcall Try.prog C0 (k + 20)) (k + 20) 32 [.int .i64 (a.tmod 2000)] ⟨0, []⟩ = some (.int .i64 NA, ⟨0, []⟩))
  (BB : ∀ k, lrun Try.prog C0 (lcall Try.prog C0 (k + 20)) (k + 20) 32 [.int .i64 (b.tmod 2000)] ⟨0, []⟩ = some (.int .i64 NB, ⟨0, []⟩))
  (U : ∀ k, lrun Try.prog C0 (lcall Try.prog C0 (k + 20)) (k + 20) 34 [.ptr 0 0] ⟨1, [(0, dO rm [] p1)]⟩ = some (.int .i64 NA, ⟨1, [(0, dO rm [] p1)]⟩))
  (hw : lrun Try.prog C0 (lcall Try.prog C0 (n + 199)) (n + 199) 25 [] ⟨0, []⟩ = some (.bool true, ⟨0, []⟩)) :
  lrun Try.prog C0 (lcall Try.prog C0 (n + 200)) (n + 200) 8 [.int .u8 rm, .int .u16 a, .int .u16 b] ⟨0, []⟩ = some (.bool true, ⟨0, []⟩) := by
  have f1 : LV.int IntKind.i64 (IntKind.wrap IntKind.i64 a) = LV.int IntKind.i64 a := by simp (disch := omega) [-List.reduceReplicate]
  have f2 : LV.int IntKind.i64 (IntKind.wrap IntKind.i64 b) = LV.int IntKind.i64 b := by simp (disch := omega) [-List.reduceReplicate]
  have f3 : LV.int IntKind.i64 (IntKind.wrap IntKind.i64 rm) = LV.int IntKind.i64 rm := by simp (disch := omega) [-List.reduceReplicate]
  have f4 := new_ok (n + 189) rm h0 (by omega)
  have f5 : lrun Try.prog C0 (lcall Try.prog C0 (n + 199)) (n + 199) 28 [LV.ptr 0 0, LV.int IntKind.i64 0, LV.int IntKind.i64 0] (St.mk 1 [(0, LObj.box 77 [LV.int IntKind.i64 rm, LV.omap IntKind.i64 [] [], LV.own 88 2 []])]) = some (LV.tup [LV.ptr 1 0, LV.isl 2 [], LV.nili], St.mk 2 [(0, LObj.box 77 [LV.int IntKind.i64 rm, LV.omap IntKind.i64 [] [], LV.own 88 2 []]), (1, LObj.box 106 [LV.ptr 0 0, LV.int IntKind.i64 0, LV.int IntKind.i64 0, LV.int IntKind.i64 1])]) := by kernel_rfl
  have f6 : LV.bool (if false = true then true else decide (Int.tmod a 2000 = 0)) = LV.bool false := by (simp [-List.reduceReplicate]; omega)
  have f7 : LV.bool (if false = true then true else decide (Int.tmod b 2000 = 0)) = LV.bool false := by (simp [-List.reduceReplicate]; omega)
  have f8 : 0 ≤ Int.tmod a 2000 ∧ Int.tmod a 2000 ≤ Int.tmod a 2000 ∧ 1 * Int.tmod a 2000 ≤ 281474976710656 := by omega
  have f9 : LObj.row 5 1 (List.replicate (Int.toNat (Int.tmod a 2000)) (LV.int IntKind.u8 0)) = LObj.row 5 1 (bys (List.replicate (Int.toNat (Int.tmod a 2000)) 0)) := by simp
  have f10 : LV.bool (decide (Int.tmod a 2000 = 0)) = LV.bool false := by (simp [-List.reduceReplicate]; omega)
  have f11 : LV.bool (decide (Int.tmod b 2000 = 0)) = LV.bool false := by (simp [-List.reduceReplicate]; omega)
  have f12 : (if 2 = 2 then if 1 = 1 ∧ 0 + Int.toNat (Int.tmod a 2000) ≤ List.length (bys (List.replicate (Int.toNat (Int.tmod a 2000)) 0)) ∧ capLe (Int.toNat (Int.tmod a 2000)) none = true then LV.isl 1 (List.take (Int.toNat (Int.tmod a 2000)) (List.drop 0 (bys (List.replicate (Int.toNat (Int.tmod a 2000)) 0)))) else LV.any else LV.sl 1 2 0 (Int.toNat (Int.tmod a 2000)) none) = LV.isl 1 (bys (List.replicate (Int.toNat (Int.tmod a 2000)) 0)) := by simp
  have f13 := A1 (n + 34)
  have f14 := BA (n + 179)
  have f15 : (!true == decide (NA ≤ rm)) = false := by (simp [-List.reduceReplicate]; omega)
  have f16 : LV.bool (if (!true == decide (NA ≤ rm)) = true then true else false) = LV.bool false := by (simp [-List.reduceReplicate]; omega)
  have f17 := U (n + 179)
  have f18 : lrun Try.prog C0 (lcall Try.prog C0 (n + 199)) (n + 199) 35 [LV.ptr 0 0] (St.mk 2 [(0, LObj.box 106 [LV.ptr 1 0, LV.int IntKind.i64 0, LV.int IntKind.i64 NA, LV.int IntKind.i64 s1]), (1, LObj.box 77 [LV.int IntKind.i64 rm, LV.omap IntKind.i64 [] [], LV.own 88 2 (pnds p1)])]) = some (LV.int IntKind.i64 NA, St.mk 2 [(0, LObj.box 106 [LV.ptr 1 0, LV.int IntKind.i64 0, LV.int IntKind.i64 NA, LV.int IntKind.i64 s1]), (1, LObj.box 77 [LV.int IntKind.i64 rm, LV.omap IntKind.i64 [] [], LV.own 88 2 (pnds p1)])]) := by kernel_rfl
  have f19 : 0 ≤ Int.tmod b 2000 ∧ Int.tmod b 2000 ≤ Int.tmod b 2000 ∧ 1 * Int.tmod b 2000 ≤ 281474976710656 := by omega
  have f20 : LObj.row 5 1 (List.replicate (Int.toNat (Int.tmod b 2000)) (LV.int IntKind.u8 0)) = LObj.row 5 1 (bys (List.replicate (Int.toNat (Int.tmod b 2000)) 0)) := by simp
  have f21 : LV.bool (decide (NA ≤ rm)) = LV.bool true := by (simp [-List.reduceReplicate]; omega)
  have f22 : (LV.bool !true == decide (NA ≤ rm)) = LV.bool false := by (simp [-List.reduceReplicate]; omega)
  have f23 : (if 3 = 3 then if 1 = 1 ∧ 0 + Int.toNat (Int.tmod b 2000) ≤ List.length (bys (List.replicate (Int.toNat (Int.tmod b 2000)) 0)) ∧ capLe (Int.toNat (Int.tmod b 2000)) none = true then LV.isl 1 (List.take (Int.toNat (Int.tmod b 2000)) (List.drop 0 (bys (List.replicate (Int.toNat (Int.tmod b 2000)) 0)))) else LV.any else LV.sl 1 3 0 (Int.toNat (Int.tmod b 2000)) none) = LV.isl 1 (bys (List.replicate (Int.toNat (Int.tmod b 2000)) 0)) := by simp
  have f24 := A2 (n + 34)
  have f25 := BB (n + 179)
  have f26 : LV.int IntKind.i64 (IntKind.wrap IntKind.i64 (NA + NB)) = LV.int IntKind.i64 (NA + NB) := by simp (disch := omega) [-List.reduceReplicate]
  have f27 : (true == decide (NA + NB ≤ rm)) = true := by (simp [-List.reduceReplicate]; omega)
  have f28 := BA (n + 179)
  have f29 : LV.int IntKind.i64 (IntKind.wrap IntKind.i64 (NA * 46)) = LV.int IntKind.i64 (NA * 46) := by simp (disch := omega) [-List.reduceReplicate]
  have f30 : LV.bool (if (true == decide (NA + NB ≤ rm)) = true then decide (Int.tmod a 2000 ≤ NA * 46) else false) = LV.bool true := by (simp [-List.reduceReplicate]; omega)
  have f31 := BA (n + 179)
  have f32 : LV.int IntKind.i64 (IntKind.wrap IntKind.i64 (NA - 1)) = LV.int IntKind.i64 (NA - 1) := by simp (disch := omega) [-List.reduceReplicate]
  have f33 : LV.int IntKind.i64 (IntKind.wrap IntKind.i64 ((NA - 1) * 46)) = LV.int IntKind.i64 ((NA - 1) * 46) := by simp (disch := omega) [-List.reduceReplicate]
  have f34 : LV.bool (if true = true then decide ((NA - 1) * 46 < Int.tmod a 2000) else false) = LV.bool true := by (simp [-List.reduceReplicate]; omega)
  have f35 := hw
  exact drun_ok (fun h => And.intro (f1) <| And.intro (f2) <| And.intro (f3) <| And.intro (f4) <| And.intro (f5) <| And.intro (f6) <| And.intro (f7) <| And.intro (f8) <| And.intro (congrArg some f9) <| And.intro (f10) <| And.intro (f11) <| And.intro (f12) <| And.intro (f13) <| And.intro (f14) <| And.intro (f3) <| And.intro (congrArg some f15) <| And.intro (congrArg some f15) <| And.intro (congrArg some f15) <| And.intro (congrArg some f15) <| And.intro (f16) <| And.intro (f17) <| And.intro (f18) <| And.intro (f19) <| And.intro (congrArg some f20) <| And.intro (f21) <| And.intro (f22) <| And.intro (f22) <| And.intro (f23) <| And.intro (f24) <| And.intro (f25) <| And.intro (f26) <| And.intro (f3) <| And.intro (congrArg some f27) <| And.intro (congrArg some f27) <| And.intro (f28) <| And.intro (congrArg some f27) <| And.intro (f29) <| And.intro (congrArg some f27) <| And.intro (congrArg some f27) <| And.intro (f30) <| And.intro (f31) <| And.intro (f32) <| And.intro (f33) <| And.intro (f34) <| And.intro (f35) <| h) (.s (.a) (.s (.r [.a, .v (vOf f1) (.a), .a, .a, .v (vOf f2) (.a)]) (.s (.r [.a, .v (vOf f3) (.a), .f (rOf f4)]) (.s (.a) (.s (.r [.a, .f (rOf f5)]) (.s (.s (.r [.a, .a, .a, .a, .a, .a, .a, .a, .a, .v (vOf f6) (.a), .a, .a, .a, .v (vOf f7) (.a)]) (.a)) (.s (.r [.a, .a, .x 2 (vOf f9) (.q), .z [.y 52 (vOf f10), .y 56 (vOf f11), .y 70 (vOf f12)] (.f (rOf f13))]) (.s (.s (.d [] [.a, .a, .a, .f (rOf f14), .a, .v (vOf f3) (.a), .a] [] [.a, .a, .g false (.a), .g false (.a), .g false (.a), .a, .a, .a, .a, .a, .a, .a, .a, .a, .a, .a, .a, .a, .g false (.a), .v (vOf f16) (.a)]) (.a)) (.s (.r [.a, .f (rOf f17), .a, .f (rOf f18)]) (.s (.r [.a, .a, .x 3 (vOf f20) (.q), .z [.y 80 (vOf f21), .y 81 (vOf f22), .y 82 (vOf f22), .y 108 (vOf f23)] (.f (rOf f24))]) (.s (.s (.r []) (.a)) (.s (.d [] [.a, .a, .a, .a, .f (rOf f25), .v (vOf f26) (.a), .a, .v (vOf f3) (.a), .a, .a, .a, .g true (.a), .g true (.f (rOf f28)), .g true (.v (vOf f29) (.a)), .g true (.a), .g true (.a), .v (vOf f30) (.a), .a, .a, .f (rOf f31), .v (vOf f32) (.a), .v (vOf f33) (.a), .a] [] [.a, .v (vOf f34) (.a), .a, .f (rOf f35)]) (.a))))))))))))) [] .a (by kernel_rfl)
theorem full_of (n : Nat) (rm a b NA NB s1 s2 : Int) (p1 p2 : List (Int × Option (List Int))) (h0 : 0 ≤ rm) (h1 : rm ≤ 255) (ha : 0 ≤ a) (ha2 : a ≤ 65535) (hb : 0 ≤ b) (hb2 : b ≤ 65535) (ha0 : 0 < a.tmod 2000) (hb0 : 0 < b.tmod 2000) (ha3 : a.tmod 2000 < 2000) (hb3 : b.tmod 2000 < 2000)
  (hNA : 1 ≤ NA) (hNA2 : NA ≤ 60) (hNB : 1 ≤ NB) (hNB2 : NB ≤ 60) (q1 : a.tmod 2000 ≤ NA * 46) (q2 : (NA - 1) * 46 < a.tmod 2000) (g1 : NA ≤ rm) (g2 : rm < NA + NB)
  (A1 : ∀ k, lrun Try.prog C0 (lcall Try.prog C0 (k + 165)) (k + 165) 29 [.ptr 0 0, .isl 1 (bys (zb a))] ⟨2, [(0, chO 0 0 1), (1, dO rm [] [])]⟩ = some (.tup [.int .i64 0, .nili], ⟨2, [(0, chO 0 NA s1), (1, dO rm [] p1)]⟩))
  (A2 : ∀ k, lrun Try.prog C0 (lcall Try.prog C0 (k + 165)) (k + 165) 29 [.ptr 0 0, .isl 1 (bys (zb b))] ⟨2, [(0, chO 0 NA s1), (1, dO rm [] p1)]⟩ = some (.tup [.int .i64 0, fullE NA], ⟨2, [(0, chO 0 NA s1), (1, dO rm [] p1)]⟩))
  (BA : ∀ k, lrun Try.prog C0 (lcall Try.prog C0 (k + 20)) (k + 20) 32 [.int .i64 (a.tmod 2000)] ⟨0, []⟩ = some (.int .i64 NA, ⟨0, []⟩))
  (BB : ∀ k, lrun Try.prog C0 (lcall Try.prog C0 (k + 20)) (k + 20) 32 [.int .i64 (b.tmod 2000)] ⟨0, []⟩ = some (.int .i64 NB, ⟨0, []⟩))
  (U : ∀ k, lrun Try.prog C0 (lcall Try.prog C0 (k + 20)) (k + 20) 34 [.ptr 0 0] ⟨1, [(0, dO rm [] p1)]⟩ = some (.int .i64 NA, ⟨1, [(0, dO rm [] p1)]⟩))
  (hw : lrun Try.prog C0 (lcall Try.prog C0 (n + 199)) (n + 199) 25 [] ⟨0, []⟩ = some (.bool true, ⟨0, []⟩)) :
  lrun Try.prog C0 (lcall Try.prog C0 (n + 200)) (n + 200) 8 [.int .u8 rm, .int .u16 a, .int .u16 b] ⟨0, []⟩ = some (.bool true, ⟨0, []⟩) := by
  have f1 : LV.int IntKind.i64 (IntKind.wrap IntKind.i64 a) = LV.int IntKind.i64 a := by simp (disch := omega) [-List.reduceReplicate]
  have f2 : LV.int IntKind.i64 (IntKind.wrap IntKind.i64 b) = LV.int IntKind.i64 b := by simp (disch := omega) [-List.reduceReplicate]
  have f3 : LV.int IntKind.i64 (IntKind.wrap IntKind.i64 rm) = LV.int IntKind.i64 rm := by simp (disch := omega) [-List.reduceReplicate]
  have f4 := new_ok (n + 189) rm h0 (by omega)
  have f5 : lrun Try.prog C0 (lcall Try.prog C0 (n + 199)) (n + 199) 28 [LV.ptr 0 0, LV.int IntKind.i64 0, LV.int IntKind.i64 0] (St.mk 1 [(0, LObj.box 77 [LV.int IntKind.i64 rm, LV.omap IntKind.i64 [] [], LV.own 88 2 []])]) = some (LV.tup [LV.ptr 1 0, LV.isl 2 [], LV.nili], St.mk 2 [(0, LObj.box 77 [LV.int IntKind.i64 rm, LV.omap IntKind.i64 [] [], LV.own 88 2 []]), (1, LObj.box 106 [LV.ptr 0 0, LV.int IntKind.i64 0, LV.int IntKind.i64 0, LV.int IntKind.i64 1])]) := by kernel_rfl
  have f6 : LV.bool (if false = true then true else decide (Int.tmod a 2000 = 0)) = LV.bool false := by (simp [-List.reduceReplicate]; omega)
  have f7 : LV.bool (if false = true then true else decide (Int.tmod b 2000 = 0)) = LV.bool false := by (simp [-List.reduceReplicate]; omega)
  have f8 : 0 ≤ Int.tmod a 2000 ∧ Int.tmod a 2000 ≤ Int.tmod a 2000 ∧ 1 * Int.tmod a 2000 ≤ 281474976710656 := by omega
  have f9 : LObj.row 5 1 (List.replicate (Int.toNat (Int.tmod a 2000)) (LV.int IntKind.u8 0)) = LObj.row 5 1 (bys (List.replicate (Int.toNat (Int.tmod a 2000)) 0)) := by simp
  have f10 : LV.bool (decide (Int.tmod a 2000 = 0)) = LV.bool false := by (simp [-List.reduceReplicate]; omega)
  have f11 : LV.bool (decide (Int.tmod b 2000 = 0)) = LV.bool false := by (simp [-List.reduceReplicate]; omega)
  have f12 : (if 2 = 2 then if 1 = 1 ∧ 0 + Int.toNat (Int.tmod a 2000) ≤ List.length (bys (List.replicate (Int.toNat (Int.tmod a 2000)) 0)) ∧ capLe (Int.toNat (Int.tmod a 2000)) none = true then LV.isl 1 (List.take (Int.toNat (Int.tmod a 2000)) (List.drop 0 (bys (List.replicate (Int.toNat (Int.tmod a 2000)) 0)))) else LV.any else LV.sl 1 2 0 (Int.toNat (Int.tmod a 2000)) none) = LV.isl 1 (bys (List.replicate (Int.toNat (Int.tmod a 2000)) 0)) := by simp
  have f13 := A1 (n + 34)
  have f14 := BA (n + 179)
  have f15 : (!true == decide (NA ≤ rm)) = false := by (simp [-List.reduceReplicate]; omega)
  have f16 : LV.bool (if (!true == decide (NA ≤ rm)) = true then true else false) = LV.bool false := by (simp [-List.reduceReplicate]; omega)
  have f17 := U (n + 179)
  have f18 : lrun Try.prog C0 (lcall Try.prog C0 (n + 199)) (n + 199) 35 [LV.ptr 0 0] (St.mk 2 [(0, LObj.box 106 [LV.ptr 1 0, LV.int IntKind.i64 0, LV.int IntKind.i64 NA, LV.int IntKind.i64 s1]), (1, LObj.box 77 [LV.int IntKind.i64 rm, LV.omap IntKind.i64 [] [], LV.own 88 2 (pnds p1)])]) = some (LV.int IntKind.i64 NA, St.mk 2 [(0, LObj.box 106 [LV.ptr 1 0, LV.int IntKind.i64 0, LV.int IntKind.i64 NA, LV.int IntKind.i64 s1]), (1, LObj.box 77 [LV.int IntKind.i64 rm, LV.omap IntKind.i64 [] [], LV.own 88 2 (pnds p1)])]) := by kernel_rfl
  have f19 : 0 ≤ Int.tmod b 2000 ∧ Int.tmod b 2000 ≤ Int.tmod b 2000 ∧ 1 * Int.tmod b 2000 ≤ 281474976710656 := by omega
  have f20 : LObj.row 5 1 (List.replicate (Int.toNat (Int.tmod b 2000)) (LV.int IntKind.u8 0)) = LObj.row 5 1 (bys (List.replicate (Int.toNat (Int.tmod b 2000)) 0)) := by simp
  have f21 : LV.bool (decide (NA ≤ rm)) = LV.bool true := by (simp [-List.reduceReplicate]; omega)
  have f22 : (LV.bool !true == decide (NA ≤ rm)) = LV.bool false := by (simp [-List.reduceReplicate]; omega)
  have f23 : (if 3 = 3 then if 1 = 1 ∧ 0 + Int.toNat (Int.tmod b 2000) ≤ List.length (bys (List.replicate (Int.toNat (Int.tmod b 2000)) 0)) ∧ capLe (Int.toNat (Int.tmod b 2000)) none = true then LV.isl 1 (List.take (Int.toNat (Int.tmod b 2000)) (List.drop 0 (bys (List.replicate (Int.toNat (Int.tmod b 2000)) 0)))) else LV.any else LV.sl 1 3 0 (Int.toNat (Int.tmod b 2000)) none) = LV.isl 1 (bys (List.replicate (Int.toNat (Int.tmod b 2000)) 0)) := by simp
  have f24 := A2 (n + 34)
  have f25 := U (n + 179)
  have f26 : (!decide (NA = NA)) = false := by simp
  have f27 : LV.bool (if (!decide (NA = NA)) = true then true else !decide (NA = NA)) = LV.bool false := by simp
  have f28 := BB (n + 179)
  have f29 : LV.int IntKind.i64 (IntKind.wrap IntKind.i64 (NA + NB)) = LV.int IntKind.i64 (NA + NB) := by simp (disch := omega) [-List.reduceReplicate]
  have f30 : (false == decide (NA + NB ≤ rm)) = true := by (simp [-List.reduceReplicate]; omega)
  have f31 := BA (n + 179)
  have f32 : LV.int IntKind.i64 (IntKind.wrap IntKind.i64 (NA * 46)) = LV.int IntKind.i64 (NA * 46) := by simp (disch := omega) [-List.reduceReplicate]
  have f33 : LV.bool (if (false == decide (NA + NB ≤ rm)) = true then decide (Int.tmod a 2000 ≤ NA * 46) else false) = LV.bool true := by (simp [-List.reduceReplicate]; omega)
  have f34 := BA (n + 179)
  have f35 : LV.int IntKind.i64 (IntKind.wrap IntKind.i64 (NA - 1)) = LV.int IntKind.i64 (NA - 1) := by simp (disch := omega) [-List.reduceReplicate]
  have f36 : LV.int IntKind.i64 (IntKind.wrap IntKind.i64 ((NA - 1) * 46)) = LV.int IntKind.i64 ((NA - 1) * 46) := by simp (disch := omega) [-List.reduceReplicate]
  have f37 : LV.bool (if true = true then decide ((NA - 1) * 46 < Int.tmod a 2000) else false) = LV.bool true := by (simp [-List.reduceReplicate]; omega)
  have f38 := hw
  exact drun_ok (fun h => And.intro (f1) <| And.intro (f2) <| And.intro (f3) <| And.intro (f4) <| And.intro (f5) <| And.intro (f6) <| And.intro (f7) <| And.intro (f8) <| And.intro (congrArg some f9) <| And.intro (f10) <| And.intro (f11) <| And.intro (f12) <| And.intro (f13) <| And.intro (f14) <| And.intro (f3) <| And.intro (congrArg some f15) <| And.intro (congrArg some f15) <| And.intro (congrArg some f15) <| And.intro (congrArg some f15) <| And.intro (f16) <| And.intro (f17) <| And.intro (f18) <| And.intro (f19) <| And.intro (congrArg some f20) <| And.intro (f21) <| And.intro (f22) <| And.intro (f22) <| And.intro (f23) <| And.intro (f24) <| And.intro (f25) <| And.intro (congrArg some f26) <| And.intro (congrArg some f26) <| And.intro (f18) <| And.intro (congrArg some f26) <| And.intro (congrArg some f26) <| And.intro (f27) <| And.intro (f28) <| And.intro (f29) <| And.intro (f3) <| And.intro (congrArg some f30) <| And.intro (congrArg some f30) <| And.intro (f31) <| And.intro (congrArg some f30) <| And.intro (f32) <| And.intro (congrArg some f30) <| And.intro (congrArg some f30) <| And.intro (f33) <| And.intro (f34) <| And.intro (f35) <| And.intro (f36) <| And.intro (f37) <| And.intro (f38) <| h) (.s (.a) (.s (.r [.a, .v (vOf f1) (.a), .a, .a, .v (vOf f2) (.a)]) (.s (.r [.a, .v (vOf f3) (.a), .f (rOf f4)]) (.s (.a) (.s (.r [.a, .f (rOf f5)]) (.s (.s (.r [.a, .a, .a, .a, .a, .a, .a, .a, .a, .v (vOf f6) (.a), .a, .a, .a, .v (vOf f7) (.a)]) (.a)) (.s (.r [.a, .a, .x 2 (vOf f9) (.q), .z [.y 52 (vOf f10), .y 56 (vOf f11), .y 70 (vOf f12)] (.f (rOf f13))]) (.s (.s (.d [] [.a, .a, .a, .f (rOf f14), .a, .v (vOf f3) (.a), .a] [] [.a, .a, .g false (.a), .g false (.a), .g false (.a), .a, .a, .a, .a, .a, .a, .a, .a, .a, .a, .a, .a, .a, .g false (.a), .v (vOf f16) (.a)]) (.a)) (.s (.r [.a, .f (rOf f17), .a, .f (rOf f18)]) (.s (.r [.a, .a, .x 3 (vOf f20) (.q), .z [.y 80 (vOf f21), .y 81 (vOf f22), .y 82 (vOf f22), .y 108 (vOf f23)] (.f (rOf f24))]) (.s (.s (.r [.a, .a, .a, .a, .f (rOf f25), .a, .a, .a, .g false (.a), .g false (.f (rOf f18)), .g false (.a), .g false (.a), .v (vOf f27) (.a)]) (.a)) (.s (.d [] [.a, .a, .a, .a, .f (rOf f28), .v (vOf f29) (.a), .a, .v (vOf f3) (.a), .a, .a, .a, .g true (.a), .g true (.f (rOf f31)), .g true (.v (vOf f32) (.a)), .g true (.a), .g true (.a), .v (vOf f33) (.a), .a, .a, .f (rOf f34), .v (vOf f35) (.a), .v (vOf f36) (.a), .a] [] [.a, .v (vOf f37) (.a), .a, .f (rOf f38)]) (.a))))))))))))) [] .a (by kernel_rfl)
theorem full_fo (n : Nat) (rm a b NA NB s1 s2 : Int) (p1 p2 : List (Int × Option (List Int))) (h0 : 0 ≤ rm) (h1 : rm ≤ 255) (ha : 0 ≤ a) (ha2 : a ≤ 65535) (hb : 0 ≤ b) (hb2 : b ≤ 65535) (ha0 : 0 < a.tmod 2000) (hb0 : 0 < b.tmod 2000) (ha3 : a.tmod 2000 < 2000) (hb3 : b.tmod 2000 < 2000)
  (hNA : 1 ≤ NA) (hNA2 : NA ≤ 60) (hNB : 1 ≤ NB) (hNB2 : NB ≤ 60) (q1 : a.tmod 2000 ≤ NA * 46) (q2 : (NA - 1) * 46 < a.tmod 2000) (g1 : rm < NA) (g2 : 0 + NB ≤ rm)
  (A1 : ∀ k, lrun Try.prog C0 (lcall Try.prog C0 (k + 165)) (k + 165) 29 [.ptr 0 0, .isl 1 (bys (zb a))] ⟨2, [(0, chO 0 0 1), (1, dO rm [] [])]⟩ = some (.tup [.int .i64 0, fullE 0], ⟨2, [(0, chO 0 0 1), (1, dO rm [] [])]⟩))
  (A2 : ∀ k, lrun Try.prog C0 (lcall Try.prog C0 (k + 165)) (k + 165) 29 [.ptr 0 0, .isl 1 (bys (zb b))] ⟨2, [(0, chO 0 0 1), (1, dO rm [] [])]⟩ = some (.tup [.int .i64 0, .nili], ⟨2, [(0, chO 0 (0 + NB) s2), (1, dO rm [] p2)]⟩))
  (BA : ∀ k, lrun Try.prog C0 (lcall Try.prog C0 (k + 20)) (k + 20) 32 [.int .i64 (a.tmod 2000)] ⟨0, []⟩ = some (.int .i64 NA, ⟨0, []⟩))
  (BB : ∀ k, lrun Try.prog C0 (lcall Try.prog C0 (k + 20)) (k + 20) 32 [.int .i64 (b.tmod 2000)] ⟨0, []⟩ = some (.int .i64 NB, ⟨0, []⟩))
  (U : ∀ k, lrun Try.prog C0 (lcall Try.prog C0 (k + 20)) (k + 20) 34 [.ptr 0 0] ⟨1, [(0, dO rm [] [])]⟩ = some (.int .i64 0, ⟨1, [(0, dO rm [] [])]⟩))
  (hw : lrun Try.prog C0 (lcall Try.prog C0 (n + 199)) (n + 199) 25 [] ⟨0, []⟩ = some (.bool true, ⟨0, []⟩)) :
  lrun Try.prog C0 (lcall Try.prog C0 (n + 200)) (n + 200) 8 [.int .u8 rm, .int .u16 a, .int .u16 b] ⟨0, []⟩ = some (.bool true, ⟨0, []⟩) := by
  have f1 : LV.int IntKind.i64 (IntKind.wrap IntKind.i64 a) = LV.int IntKind.i64 a := by simp (disch := omega) [-List.reduceReplicate]
  have f2 : LV.int IntKind.i64 (IntKind.wrap IntKind.i64 b) = LV.int IntKind.i64 b := by simp (disch := omega) [-List.reduceReplicate]
  have f3 : LV.int IntKind.i64 (IntKind.wrap IntKind.i64 rm) = LV.int IntKind.i64 rm := by simp (disch := omega) [-List.reduceReplicate]
  have f4 := new_ok (n + 189) rm h0 (by omega)
  have f5 : lrun Try.prog C0 (lcall Try.prog C0 (n + 199)) (n + 199) 28 [LV.ptr 0 0, LV.int IntKind.i64 0, LV.int IntKind.i64 0] (St.mk 1 [(0, LObj.box 77 [LV.int IntKind.i64 rm, LV.omap IntKind.i64 [] [], LV.own 88 2 []])]) = some (LV.tup [LV.ptr 1 0, LV.isl 2 [], LV.nili], St.mk 2 [(0, LObj.box 77 [LV.int IntKind.i64 rm, LV.omap IntKind.i64 [] [], LV.own 88 2 []]), (1, LObj.box 106 [LV.ptr 0 0, LV.int IntKind.i64 0, LV.int IntKind.i64 0, LV.int IntKind.i64 1])]) := by kernel_rfl
  have f6 : LV.bool (if false = true then true else decide (Int.tmod a 2000 = 0)) = LV.bool false := by (simp [-List.reduceReplicate]; omega)
  have f7 : LV.bool (if false = true then true else decide (Int.tmod b 2000 = 0)) = LV.bool false := by (simp [-List.reduceReplicate]; omega)
  have f8 : 0 ≤ Int.tmod a 2000 ∧ Int.tmod a 2000 ≤ Int.tmod a 2000 ∧ 1 * Int.tmod a 2000 ≤ 281474976710656 := by omega
  have f9 : LObj.row 5 1 (List.replicate (Int.toNat (Int.tmod a 2000)) (LV.int IntKind.u8 0)) = LObj.row 5 1 (bys (List.replicate (Int.toNat (Int.tmod a 2000)) 0)) := by simp
  have f10 : LV.bool (decide (Int.tmod a 2000 = 0)) = LV.bool false := by (simp [-List.reduceReplicate]; omega)
  have f11 : LV.bool (decide (Int.tmod b 2000 = 0)) = LV.bool false := by (simp [-List.reduceReplicate]; omega)
  have f12 : (if 2 = 2 then if 1 = 1 ∧ 0 + Int.toNat (Int.tmod a 2000) ≤ List.length (bys (List.replicate (Int.toNat (Int.tmod a 2000)) 0)) ∧ capLe (Int.toNat (Int.tmod a 2000)) none = true then LV.isl 1 (List.take (Int.toNat (Int.tmod a 2000)) (List.drop 0 (bys (List.replicate (Int.toNat (Int.tmod a 2000)) 0)))) else LV.any else LV.sl 1 2 0 (Int.toNat (Int.tmod a 2000)) none) = LV.isl 1 (bys (List.replicate (Int.toNat (Int.tmod a 2000)) 0)) := by simp
  have f13 := A1 (n + 34)
  have f14 := BA (n + 179)
  have f15 : (!false == decide (NA ≤ rm)) = false := by (simp [-List.reduceReplicate]; omega)
  have f16 := U (n + 179)
  have f17 : lrun Try.prog C0 (lcall Try.prog C0 (n + 199)) (n + 199) 35 [LV.ptr 0 0] (St.mk 2 [(0, LObj.box 106 [LV.ptr 1 0, LV.int IntKind.i64 0, LV.int IntKind.i64 0, LV.int IntKind.i64 1]), (1, LObj.box 77 [LV.int IntKind.i64 rm, LV.omap IntKind.i64 [] [], LV.own 88 2 []])]) = some (LV.int IntKind.i64 0, St.mk 2 [(0, LObj.box 106 [LV.ptr 1 0, LV.int IntKind.i64 0, LV.int IntKind.i64 0, LV.int IntKind.i64 1]), (1, LObj.box 77 [LV.int IntKind.i64 rm, LV.omap IntKind.i64 [] [], LV.own 88 2 []])]) := by kernel_rfl
  have f18 : LV.bool (if (!false == decide (NA ≤ rm)) = true then true else false) = LV.bool false := by (simp [-List.reduceReplicate]; omega)
  have f19 := U (n + 179)
  have f20 : 0 ≤ Int.tmod b 2000 ∧ Int.tmod b 2000 ≤ Int.tmod b 2000 ∧ 1 * Int.tmod b 2000 ≤ 281474976710656 := by omega
  have f21 : LObj.row 5 1 (List.replicate (Int.toNat (Int.tmod b 2000)) (LV.int IntKind.u8 0)) = LObj.row 5 1 (bys (List.replicate (Int.toNat (Int.tmod b 2000)) 0)) := by simp
  have f22 : LV.bool (decide (NA ≤ rm)) = LV.bool false := by (simp [-List.reduceReplicate]; omega)
  have f23 : (LV.bool !false == decide (NA ≤ rm)) = LV.bool false := by (simp [-List.reduceReplicate]; omega)
  have f24 : (if 3 = 3 then if 1 = 1 ∧ 0 + Int.toNat (Int.tmod b 2000) ≤ List.length (bys (List.replicate (Int.toNat (Int.tmod b 2000)) 0)) ∧ capLe (Int.toNat (Int.tmod b 2000)) none = true then LV.isl 1 (List.take (Int.toNat (Int.tmod b 2000)) (List.drop 0 (bys (List.replicate (Int.toNat (Int.tmod b 2000)) 0)))) else LV.any else LV.sl 1 3 0 (Int.toNat (Int.tmod b 2000)) none) = LV.isl 1 (bys (List.replicate (Int.toNat (Int.tmod b 2000)) 0)) := by simp
  have f25 := A2 (n + 34)
  have f26 := BB (n + 179)
  have f27 : LV.int IntKind.i64 (IntKind.wrap IntKind.i64 (0 + NB)) = LV.int IntKind.i64 NB := by simp (disch := omega) [-List.reduceReplicate]
  have f28 : (true == decide (NB ≤ rm)) = true := by (simp [-List.reduceReplicate]; omega)
  have f29 := BA (n + 179)
  have f30 : LV.int IntKind.i64 (IntKind.wrap IntKind.i64 (NA * 46)) = LV.int IntKind.i64 (NA * 46) := by simp (disch := omega) [-List.reduceReplicate]
  have f31 : LV.bool (if (true == decide (NB ≤ rm)) = true then decide (Int.tmod a 2000 ≤ NA * 46) else false) = LV.bool true := by (simp [-List.reduceReplicate]; omega)
  have f32 := BA (n + 179)
  have f33 : LV.int IntKind.i64 (IntKind.wrap IntKind.i64 (NA - 1)) = LV.int IntKind.i64 (NA - 1) := by simp (disch := omega) [-List.reduceReplicate]
  have f34 : LV.int IntKind.i64 (IntKind.wrap IntKind.i64 ((NA - 1) * 46)) = LV.int IntKind.i64 ((NA - 1) * 46) := by simp (disch := omega) [-List.reduceReplicate]
  have f35 : LV.bool (if true = true then decide ((NA - 1) * 46 < Int.tmod a 2000) else false) = LV.bool true := by (simp [-List.reduceReplicate]; omega)
  have f36 := hw
  exact drun_ok (fun h => And.intro (f1) <| And.intro (f2) <| And.intro (f3) <| And.intro (f4) <| And.intro (f5) <| And.intro (f6) <| And.intro (f7) <| And.intro (f8) <| And.intro (congrArg some f9) <| And.intro (f10) <| And.intro (f11) <| And.intro (f12) <| And.intro (f13) <| And.intro (f14) <| And.intro (f3) <| And.intro (congrArg some f15) <| And.intro (congrArg some f15) <| And.intro (congrArg some f15) <| And.intro (f16) <| And.intro (f17) <| And.intro (congrArg some f15) <| And.intro (f18) <| And.intro (f19) <| And.intro (f17) <| And.intro (f20) <| And.intro (congrArg some f21) <| And.intro (f22) <| And.intro (f23) <| And.intro (f23) <| And.intro (f24) <| And.intro (f25) <| And.intro (f26) <| And.intro (f27) <| And.intro (f3) <| And.intro (congrArg some f28) <| And.intro (congrArg some f28) <| And.intro (f29) <| And.intro (congrArg some f28) <| And.intro (f30) <| And.intro (congrArg some f28) <| And.intro (congrArg some f28) <| And.intro (f31) <| And.intro (f32) <| And.intro (f33) <| And.intro (f34) <| And.intro (f35) <| And.intro (f36) <| h) (.s (.a) (.s (.r [.a, .v (vOf f1) (.a), .a, .a, .v (vOf f2) (.a)]) (.s (.r [.a, .v (vOf f3) (.a), .f (rOf f4)]) (.s (.a) (.s (.r [.a, .f (rOf f5)]) (.s (.s (.r [.a, .a, .a, .a, .a, .a, .a, .a, .a, .v (vOf f6) (.a), .a, .a, .a, .v (vOf f7) (.a)]) (.a)) (.s (.r [.a, .a, .x 2 (vOf f9) (.q), .z [.y 52 (vOf f10), .y 56 (vOf f11), .y 70 (vOf f12)] (.f (rOf f13))]) (.s (.s (.d [] [.a, .a, .a, .f (rOf f14), .a, .v (vOf f3) (.a), .a] [] [.a, .a, .g false (.a), .g false (.a), .g false (.a), .a, .a, .a, .a, .a, .f (rOf f16), .a, .a, .a, .a, .f (rOf f17), .a, .a, .g false (.a), .v (vOf f18) (.a)]) (.a)) (.s (.r [.a, .f (rOf f19), .a, .f (rOf f17)]) (.s (.r [.a, .a, .x 3 (vOf f21) (.q), .z [.y 80 (vOf f22), .y 81 (vOf f23), .y 82 (vOf f23), .y 108 (vOf f24)] (.f (rOf f25))]) (.s (.s (.r []) (.a)) (.s (.d [] [.a, .a, .a, .a, .f (rOf f26), .v (vOf f27) (.a), .a, .v (vOf f3) (.a), .a, .a, .a, .g true (.a), .g true (.f (rOf f29)), .g true (.v (vOf f30) (.a)), .g true (.a), .g true (.a), .v (vOf f31) (.a), .a, .a, .f (rOf f32), .v (vOf f33) (.a), .v (vOf f34) (.a), .a] [] [.a, .v (vOf f35) (.a), .a, .f (rOf f36)]) (.a))))))))))))) [] .a (by kernel_rfl)
theorem full_ff (n : Nat) (rm a b NA NB s1 s2 : Int) (p1 p2 : List (Int × Option (List Int))) (h0 : 0 ≤ rm) (h1 : rm ≤ 255) (ha : 0 ≤ a) (ha2 : a ≤ 65535) (hb : 0 ≤ b) (hb2 : b ≤ 65535) (ha0 : 0 < a.tmod 2000) (hb0 : 0 < b.tmod 2000) (ha3 : a.tmod 2000 < 2000) (hb3 : b.tmod 2000 < 2000)
  (hNA : 1 ≤ NA) (hNA2 : NA ≤ 60) (hNB : 1 ≤ NB) (hNB2 : NB ≤ 60) (q1 : a.tmod 2000 ≤ NA * 46) (q2 : (NA - 1) * 46 < a.tmod 2000) (g1 : rm < NA) (g2 : rm < 0 + NB)
  (A1 : ∀ k, lrun Try.prog C0 (lcall Try.prog C0 (k + 165)) (k + 165) 29 [.ptr 0 0, .isl 1 (bys (zb a))] ⟨2, [(0, chO 0 0 1), (1, dO rm [] [])]⟩ = some (.tup [.int .i64 0, fullE 0], ⟨2, [(0, chO 0 0 1), (1, dO rm [] [])]⟩))
  (A2 : ∀ k, lrun Try.prog C0 (lcall Try.prog C0 (k + 165)) (k + 165) 29 [.ptr 0 0, .isl 1 (bys (zb b))] ⟨2, [(0, chO 0 0 1), (1, dO rm [] [])]⟩ = some (.tup [.int .i64 0, fullE 0], ⟨2, [(0, chO 0 0 1), (1, dO rm [] [])]⟩))
  (BA : ∀ k, lrun Try.prog C0 (lcall Try.prog C0 (k + 20)) (k + 20) 32 [.int .i64 (a.tmod 2000)] ⟨0, []⟩ = some (.int .i64 NA, ⟨0, []⟩))
  (BB : ∀ k, lrun Try.prog C0 (lcall Try.prog C0 (k + 20)) (k + 20) 32 [.int .i64 (b.tmod 2000)] ⟨0, []⟩ = some (.int .i64 NB, ⟨0, []⟩))
  (U : ∀ k, lrun Try.prog C0 (lcall Try.prog C0 (k + 20)) (k + 20) 34 [.ptr 0 0] ⟨1, [(0, dO rm [] [])]⟩ = some (.int .i64 0, ⟨1, [(0, dO rm [] [])]⟩))
  (hw : lrun Try.prog C0 (lcall Try.prog C0 (n + 199)) (n + 199) 25 [] ⟨0, []⟩ = some (.bool true, ⟨0, []⟩)) :
  lrun Try.prog C0 (lcall Try.prog C0 (n + 200)) (n + 200) 8 [.int .u8 rm, .int .u16 a, .int .u16 b] ⟨0, []⟩ = some (.bool true, ⟨0, []⟩) := by
  have f1 : LV.int IntKind.i64 (IntKind.wrap IntKind.i64 a) = LV.int IntKind.i64 a := by simp (disch := omega) [-List.reduceReplicate]
  have f2 : LV.int IntKind.i64 (IntKind.wrap IntKind.i64 b) = LV.int IntKind.i64 b := by simp (disch := omega) [-List.reduceReplicate]
  have f3 : LV.int IntKind.i64 (IntKind.wrap IntKind.i64 rm) = LV.int IntKind.i64 rm := by simp (disch := omega) [-List.reduceReplicate]
  have f4 := new_ok (n + 189) rm h0 (by omega)
  have f5 : lrun Try.prog C0 (lcall Try.prog C0 (n + 199)) (n + 199) 28 [LV.ptr 0 0, LV.int IntKind.i64 0, LV.int IntKind.i64 0] (St.mk 1 [(0, LObj.box 77 [LV.int IntKind.i64 rm, LV.omap IntKind.i64 [] [], LV.own 88 2 []])]) = some (LV.tup [LV.ptr 1 0, LV.isl 2 [], LV.nili], St.mk 2 [(0, LObj.box 77 [LV.int IntKind.i64 rm, LV.omap IntKind.i64 [] [], LV.own 88 2 []]), (1, LObj.box 106 [LV.ptr 0 0, LV.int IntKind.i64 0, LV.int IntKind.i64 0, LV.int IntKind.i64 1])]) := by kernel_rfl
  have f6 : LV.bool (if false = true then true else decide (Int.tmod a 2000 = 0)) = LV.bool false := by (simp [-List.reduceReplicate]; omega)
  have f7 : LV.bool (if false = true then true else decide (Int.tmod b 2000 = 0)) = LV.bool false := by (simp [-List.reduceReplicate]; omega)
  have f8 : 0 ≤ Int.tmod a 2000 ∧ Int.tmod a 2000 ≤ Int.tmod a 2000 ∧ 1 * Int.tmod a 2000 ≤ 281474976710656 := by omega
  have f9 : LObj.row 5 1 (List.replicate (Int.toNat (Int.tmod a 2000)) (LV.int IntKind.u8 0)) = LObj.row 5 1 (bys (List.replicate (Int.toNat (Int.tmod a 2000)) 0)) := by simp
  have f10 : LV.bool (decide (Int.tmod a 2000 = 0)) = LV.bool false := by (simp [-List.reduceReplicate]; omega)
  have f11 : LV.bool (decide (Int.tmod b 2000 = 0)) = LV.bool false := by (simp [-List.reduceReplicate]; omega)
  have f12 : (if 2 = 2 then if 1 = 1 ∧ 0 + Int.toNat (Int.tmod a 2000) ≤ List.length (bys (List.replicate (Int.toNat (Int.tmod a 2000)) 0)) ∧ capLe (Int.toNat (Int.tmod a 2000)) none = true then LV.isl 1 (List.take (Int.toNat (Int.tmod a 2000)) (List.drop 0 (bys (List.replicate (Int.toNat (Int.tmod a 2000)) 0)))) else LV.any else LV.sl 1 2 0 (Int.toNat (Int.tmod a 2000)) none) = LV.isl 1 (bys (List.replicate (Int.toNat (Int.tmod a 2000)) 0)) := by simp
  have f13 := A1 (n + 34)
  have f14 := BA (n + 179)
  have f15 : (!false == decide (NA ≤ rm)) = false := by (simp [-List.reduceReplicate]; omega)
  have f16 := U (n + 179)
  have f17 : lrun Try.prog C0 (lcall Try.prog C0 (n + 199)) (n + 199) 35 [LV.ptr 0 0] (St.mk 2 [(0, LObj.box 106 [LV.ptr 1 0, LV.int IntKind.i64 0, LV.int IntKind.i64 0, LV.int IntKind.i64 1]), (1, LObj.box 77 [LV.int IntKind.i64 rm, LV.omap IntKind.i64 [] [], LV.own 88 2 []])]) = some (LV.int IntKind.i64 0, St.mk 2 [(0, LObj.box 106 [LV.ptr 1 0, LV.int IntKind.i64 0, LV.int IntKind.i64 0, LV.int IntKind.i64 1]), (1, LObj.box 77 [LV.int IntKind.i64 rm, LV.omap IntKind.i64 [] [], LV.own 88 2 []])]) := by kernel_rfl
  have f18 : LV.bool (if (!false == decide (NA ≤ rm)) = true then true else false) = LV.bool false := by (simp [-List.reduceReplicate]; omega)
  have f19 := U (n + 179)
  have f20 : 0 ≤ Int.tmod b 2000 ∧ Int.tmod b 2000 ≤ Int.tmod b 2000 ∧ 1 * Int.tmod b 2000 ≤ 281474976710656 := by omega
  have f21 : LObj.row 5 1 (List.replicate (Int.toNat (Int.tmod b 2000)) (LV.int IntKind.u8 0)) = LObj.row 5 1 (bys (List.replicate (Int.toNat (Int.tmod b 2000)) 0)) := by simp
  have f22 : LV.bool (decide (NA ≤ rm)) = LV.bool false := by (simp [-List.reduceReplicate]; omega)
  have f23 : (LV.bool !false == decide (NA ≤ rm)) = LV.bool false := by (simp [-List.reduceReplicate]; omega)
  have f24 : (if 3 = 3 then if 1 = 1 ∧ 0 + Int.toNat (Int.tmod b 2000) ≤ List.length (bys (List.replicate (Int.toNat (Int.tmod b 2000)) 0)) ∧ capLe (Int.toNat (Int.tmod b 2000)) none = true then LV.isl 1 (List.take (Int.toNat (Int.tmod b 2000)) (List.drop 0 (bys (List.replicate (Int.toNat (Int.tmod b 2000)) 0)))) else LV.any else LV.sl 1 3 0 (Int.toNat (Int.tmod b 2000)) none) = LV.isl 1 (bys (List.replicate (Int.toNat (Int.tmod b 2000)) 0)) := by simp
  have f25 := A2 (n + 34)
  have f26 := U (n + 179)
  have f27 := BB (n + 179)
  have f28 : LV.int IntKind.i64 (IntKind.wrap IntKind.i64 (0 + NB)) = LV.int IntKind.i64 NB := by simp (disch := omega) [-List.reduceReplicate]
  have f29 : (false == decide (NB ≤ rm)) = true := by (simp [-List.reduceReplicate]; omega)
  have f30 := BA (n + 179)
  have f31 : LV.int IntKind.i64 (IntKind.wrap IntKind.i64 (NA * 46)) = LV.int IntKind.i64 (NA * 46) := by simp (disch := omega) [-List.reduceReplicate]
  have f32 : LV.bool (if (false == decide (NB ≤ rm)) = true then decide (Int.tmod a 2000 ≤ NA * 46) else false) = LV.bool true := by (simp [-List.reduceReplicate]; omega)
  have f33 := BA (n + 179)
  have f34 : LV.int IntKind.i64 (IntKind.wrap IntKind.i64 (NA - 1)) = LV.int IntKind.i64 (NA - 1) := by simp (disch := omega) [-List.reduceReplicate]
  have f35 : LV.int IntKind.i64 (IntKind.wrap IntKind.i64 ((NA - 1) * 46)) = LV.int IntKind.i64 ((NA - 1) * 46) := by simp (disch := omega) [-List.reduceReplicate]
  have f36 : LV.bool (if true = true then decide ((NA - 1) * 46 < Int.tmod a 2000) else false) = LV.bool true := by (simp [-List.reduceReplicate]; omega)
  have f37 := hw
  exact drun_ok (fun h => And.intro (f1) <| And.intro (f2) <| And.intro (f3) <| And.intro (f4) <| And.intro (f5) <| And.intro (f6) <| And.intro (f7) <| And.intro (f8) <| And.intro (congrArg some f9) <| And.intro (f10) <| And.intro (f11) <| And.intro (f12) <| And.intro (f13) <| And.intro (f14) <| And.intro (f3) <| And.intro (congrArg some f15) <| And.intro (congrArg some f15) <| And.intro (congrArg some f15) <| And.intro (f16) <| And.intro (f17) <| And.intro (congrArg some f15) <| And.intro (f18) <| And.intro (f19) <| And.intro (f17) <| And.intro (f20) <| And.intro (congrArg some f21) <| And.intro (f22) <| And.intro (f23) <| And.intro (f23) <| And.intro (f24) <| And.intro (f25) <| And.intro (f26) <| And.intro (f17) <| And.intro (f27) <| And.intro (f28) <| And.intro (f3) <| And.intro (congrArg some f29) <| And.intro (congrArg some f29) <| And.intro (f30) <| And.intro (congrArg some f29) <| And.intro (f31) <| And.intro (congrArg some f29) <| And.intro (congrArg some f29) <| And.intro (f32) <| And.intro (f33) <| And.intro (f34) <| And.intro (f35) <| And.intro (f36) <| And.intro (f37) <| h) (.s (.a) (.s (.r [.a, .v (vOf f1) (.a), .a, .a, .v (vOf f2) (.a)]) (.s (.r [.a, .v (vOf f3) (.a), .f (rOf f4)]) (.s (.a) (.s (.r [.a, .f (rOf f5)]) (.s (.s (.r [.a, .a, .a, .a, .a, .a, .a, .a, .a, .v (vOf f6) (.a), .a, .a, .a, .v (vOf f7) (.a)]) (.a)) (.s (.r [.a, .a, .x 2 (vOf f9) (.q), .z [.y 52 (vOf f10), .y 56 (vOf f11), .y 70 (vOf f12)] (.f (rOf f13))]) (.s (.s (.d [] [.a, .a, .a, .f (rOf f14), .a, .v (vOf f3) (.a), .a] [] [.a, .a, .g false (.a), .g false (.a), .g false (.a), .a, .a, .a, .a, .a, .f (rOf f16), .a, .a, .a, .a, .f (rOf f17), .a, .a, .g false (.a), .v (vOf f18) (.a)]) (.a)) (.s (.r [.a, .f (rOf f19), .a, .f (rOf f17)]) (.s (.r [.a, .a, .x 3 (vOf f21) (.q), .z [.y 80 (vOf f22), .y 81 (vOf f23), .y 82 (vOf f23), .y 108 (vOf f24)] (.f (rOf f25))]) (.s (.s (.r [.a, .a, .a, .a, .f (rOf f26), .a, .a, .a, .a, .f (rOf f17)]) (.a)) (.s (.d [] [.a, .a, .a, .a, .f (rOf f27), .v (vOf f28) (.a), .a, .v (vOf f3) (.a), .a, .a, .a, .g true (.a), .g true (.f (rOf f30)), .g true (.v (vOf f31) (.a)), .g true (.a), .g true (.a), .v (vOf f32) (.a), .a, .a, .f (rOf f33), .v (vOf f34) (.a), .v (vOf f35) (.a), .a] [] [.a, .v (vOf f36) (.a), .a, .f (rOf f37)]) (.a))))))))))))) [] .a (by kernel_rfl)
end Go.Mac

namespace Go.Mac
open Go Go.Eng Go.Proofs
set_option linter.unusedVariables false
set_option maxHeartbeats 0
set_option maxRecDepth 100000
theorem full_z1 (n : Nat) (rm a b : Int) (h0 : 0 ≤ rm) (h1 : rm ≤ 255) (ha : 0 ≤ a) (ha2 : a ≤ 65535) (hb : 0 ≤ b) (hb2 : b ≤ 65535) (ha0 : a.tmod 2000 = 0)
  (hw : lrun Try.prog C0 (lcall Try.prog C0 (n + 199)) (n + 199) 25 [] ⟨0, []⟩ = some (.bool true, ⟨0, []⟩)) :
  lrun Try.prog C0 (lcall Try.prog C0 (n + 200)) (n + 200) 8 [.int .u8 rm, .int .u16 a, .int .u16 b] ⟨0, []⟩ = some (.bool true, ⟨0, []⟩) := by
  have f1 : LV.int IntKind.i64 (IntKind.wrap IntKind.i64 a) = LV.int IntKind.i64 a := by simp (disch := omega) [-List.reduceReplicate]
  have f2 : LV.int IntKind.i64 (IntKind.wrap IntKind.i64 b) = LV.int IntKind.i64 b := by simp (disch := omega) [-List.reduceReplicate]
  have f3 : LV.int IntKind.i64 (IntKind.wrap IntKind.i64 rm) = LV.int IntKind.i64 rm := by simp (disch := omega) [-List.reduceReplicate]
  have f4 := new_ok (n + 189) rm h0 (by omega)
  have f5 : lrun Try.prog C0 (lcall Try.prog C0 (n + 199)) (n + 199) 28 [LV.ptr 0 0, LV.int IntKind.i64 0, LV.int IntKind.i64 0] (St.mk 1 [(0, LObj.box 77 [LV.int IntKind.i64 rm, LV.omap IntKind.i64 [] [], LV.own 88 2 []])]) = some (LV.tup [LV.ptr 1 0, LV.isl 2 [], LV.nili], St.mk 2 [(0, LObj.box 77 [LV.int IntKind.i64 rm, LV.omap IntKind.i64 [] [], LV.own 88 2 []]), (1, LObj.box 106 [LV.ptr 0 0, LV.int IntKind.i64 0, LV.int IntKind.i64 0, LV.int IntKind.i64 1])]) := by kernel_rfl
  have f6 : LV.bool (if false = true then true else decide (Int.tmod a 2000 = 0)) = LV.bool true := by (simp [-List.reduceReplicate]; omega)
  have f7 := hw
  exact drun_ok (fun h => And.intro (f1) <| And.intro (f2) <| And.intro (f3) <| And.intro (f4) <| And.intro (f5) <| And.intro (f6) <| And.intro (f7) <| h) (.s (.a) (.s (.r [.a, .v (vOf f1) (.a), .a, .a, .v (vOf f2) (.a)]) (.s (.r [.a, .v (vOf f3) (.a), .f (rOf f4)]) (.s (.a) (.s (.r [.a, .f (rOf f5)]) (.s (.s (.r [.a, .a, .a, .a, .a, .a, .a, .a, .a, .v (vOf f6) (.a)]) (.c (.s (.r [.a, .a, .a, .a, .a, .a, .a, .f (rOf f7)]) (.a)))) .a)))))) [] .a (by kernel_rfl)
theorem full_z2 (n : Nat) (rm a b : Int) (h0 : 0 ≤ rm) (h1 : rm ≤ 255) (ha : 0 ≤ a) (ha2 : a ≤ 65535) (hb : 0 ≤ b) (hb2 : b ≤ 65535) (ha0 : 0 < a.tmod 2000) (hb0 : b.tmod 2000 = 0)
  (hw : lrun Try.prog C0 (lcall Try.prog C0 (n + 199)) (n + 199) 25 [] ⟨0, []⟩ = some (.bool true, ⟨0, []⟩)) :
  lrun Try.prog C0 (lcall Try.prog C0 (n + 200)) (n + 200) 8 [.int .u8 rm, .int .u16 a, .int .u16 b] ⟨0, []⟩ = some (.bool true, ⟨0, []⟩) := by
  have f1 : LV.int IntKind.i64 (IntKind.wrap IntKind.i64 a) = LV.int IntKind.i64 a := by simp (disch := omega) [-List.reduceReplicate]
  have f2 : LV.int IntKind.i64 (IntKind.wrap IntKind.i64 b) = LV.int IntKind.i64 b := by simp (disch := omega) [-List.reduceReplicate]
  have f3 : LV.int IntKind.i64 (IntKind.wrap IntKind.i64 rm) = LV.int IntKind.i64 rm := by simp (disch := omega) [-List.reduceReplicate]
  have f4 := new_ok (n + 189) rm h0 (by omega)
  have f5 : lrun Try.prog C0 (lcall Try.prog C0 (n + 199)) (n + 199) 28 [LV.ptr 0 0, LV.int IntKind.i64 0, LV.int IntKind.i64 0] (St.mk 1 [(0, LObj.box 77 [LV.int IntKind.i64 rm, LV.omap IntKind.i64 [] [], LV.own 88 2 []])]) = some (LV.tup [LV.ptr 1 0, LV.isl 2 [], LV.nili], St.mk 2 [(0, LObj.box 77 [LV.int IntKind.i64 rm, LV.omap IntKind.i64 [] [], LV.own 88 2 []]), (1, LObj.box 106 [LV.ptr 0 0, LV.int IntKind.i64 0, LV.int IntKind.i64 0, LV.int IntKind.i64 1])]) := by kernel_rfl
  have f6 : LV.bool (if false = true then true else decide (Int.tmod a 2000 = 0)) = LV.bool false := by (simp [-List.reduceReplicate]; omega)
  have f7 : LV.bool (if false = true then true else decide (Int.tmod b 2000 = 0)) = LV.bool true := by (simp [-List.reduceReplicate]; omega)
  have f8 := hw
  exact drun_ok (fun h => And.intro (f1) <| And.intro (f2) <| And.intro (f3) <| And.intro (f4) <| And.intro (f5) <| And.intro (f6) <| And.intro (f7) <| And.intro (f8) <| h) (.s (.a) (.s (.r [.a, .v (vOf f1) (.a), .a, .a, .v (vOf f2) (.a)]) (.s (.r [.a, .v (vOf f3) (.a), .f (rOf f4)]) (.s (.a) (.s (.r [.a, .f (rOf f5)]) (.s (.s (.r [.a, .a, .a, .a, .a, .a, .a, .a, .a, .v (vOf f6) (.a), .a, .a, .a, .v (vOf f7) (.a)]) (.c (.s (.r [.a, .a, .a, .a, .a, .a, .a, .f (rOf f8)]) (.a)))) .a)))))) [] .a (by kernel_rfl)
end Go.Mac

namespace Go.Mac
open Go Go.Eng Go.Proofs
set_option maxRecDepth 100000
theorem works_chain : lrun Try.prog C0 (lcall Try.prog C0 199) 199 25 [] ⟨0, []⟩ = some (.bool true, ⟨0, []⟩) := by kernel_rfl
end Go.Mac

namespace Go.Mac
open Go Go.Eng Go.Proofs
set_option linter.unusedVariables false
set_option maxRecDepth 100000
theorem Upto.nil : Upto [] 0 := ⟨fun _ h => (nomatch h), rfl, fun _ h => (nomatch h)⟩
theorem blksN_fit (a : Nat) (h : 1 ≤ a) : a ≤ blksN a * 46 ∧ (blksN a - 1) * 46 < a := by unfold blksN; split <;> omega
theorem full_ok (rm a b : Int) (h0 : 0 ≤ rm) (h1 : rm ≤ 255) (ha : 0 ≤ a) (ha2 : a ≤ 65535) (hb : 0 ≤ b) (hb2 : b ≤ 65535) :
    lrun Try.prog C0 (lcall Try.prog C0 200) 200 8 [.int .u8 rm, .int .u16 a, .int .u16 b] ⟨0, []⟩ = some (.bool true, ⟨0, []⟩) := by
  have ra : a.tmod 2000 = a % 2000 := Int.tmod_eq_emod_of_nonneg ha
  have rb : b.tmod 2000 = b % 2000 := Int.tmod_eq_emod_of_nonneg hb
  by_cases ea : a.tmod 2000 = 0
  · exact full_z1 0 rm a b h0 h1 ha ha2 hb hb2 ea works_chain
  by_cases eb : b.tmod 2000 = 0
  · exact full_z2 0 rm a b h0 h1 ha ha2 hb hb2 (by omega) eb works_chain
  have la : (zb a).length = (a.tmod 2000).toNat := by simp [zb]
  have lb : (zb b).length = (b.tmod 2000).toNat := by simp [zb]
  have ga := blksN_fit (zb a).length (by omega)
  have gb := blksN_fit (zb b).length (by omega)
  have pa := blksN_pos (zb a).length
  have pb := blksN_pos (zb b).length
  have ua : blksN (zb a).length ≤ 44 := by unfold blksN; split <;> omega
  have ub : blksN (zb b).length ≤ 44 := by unfold blksN; split <;> omega
  have BA : ∀ k, lrun Try.prog C0 (lcall Try.prog C0 (k + 20)) (k + 20) 32 [.int .i64 (a.tmod 2000)] ⟨0, []⟩ = some (.int .i64 (blksN (zb a).length), ⟨0, []⟩) := fun k => by
    have := blocks_nat k (zb a) (by omega)
    rwa [show ((bys (zb a)).length : Int) = a.tmod 2000 by rw [bys_length, la]; omega] at this
  have BB : ∀ k, lrun Try.prog C0 (lcall Try.prog C0 (k + 20)) (k + 20) 32 [.int .i64 (b.tmod 2000)] ⟨0, []⟩ = some (.int .i64 (blksN (zb b).length), ⟨0, []⟩) := fun k => by
    have := blocks_nat k (zb b) (by omega)
    rwa [show ((bys (zb b)).length : Int) = b.tmod 2000 by rw [bys_length, lb]; omega] at this
  generalize hNA : blksN (zb a).length = NA at *
  generalize hNB : blksN (zb b).length = NB at *
  have U0 : ∀ k, lrun Try.prog C0 (lcall Try.prog C0 (k + 20)) (k + 20) 34 [.ptr 0 0] ⟨1, [(0, dO rm [] [])]⟩ = some (.int .i64 0, ⟨1, [(0, dO rm [] [])]⟩) := fun k => used_ok k rm [] [] (by simp) Upto.nil.ok
  by_cases g1 : (NA : Int) ≤ rm
  · have V1 := Upto.nil.putP 1 (zb a) NA
    rw [Nat.zero_add] at V1
    generalize hp1 : putP 1 ((0 : Nat) : Int) (zb a) [] NA = p1 at V1
    have lp1 : p1.length = NA := by rw [← hp1, putP_length]; simp
    have T1 : ∀ k, lrun Try.prog C0 (lcall Try.prog C0 (k + 102)) (k + 102) 56 [.ptr 0 0, .isl 1 (bys (zb a))] ⟨2, [(0, chO 0 0 1), (1, dO rm [] [])]⟩ = some (.tup [.int .i64 0, .nili], ⟨2, [(0, chO 0 NA (1 + NA)), (1, dO rm [] p1)]⟩) := fun k => by
      have := put_fits (k + 42) 0 1 rm 0 [] (zb a) (by omega) (by simp) (by omega) (by omega) (by omega) Upto.nil (by rw [hNA]; omega) (by omega)
      rw [hNA, hp1] at this
      simpa using this
    have U1 : ∀ k, lrun Try.prog C0 (lcall Try.prog C0 (k + 20)) (k + 20) 34 [.ptr 0 0] ⟨1, [(0, dO rm [] p1)]⟩ = some (.int .i64 NA, ⟨1, [(0, dO rm [] p1)]⟩) := fun k => by
      rw [used_ok k rm [] p1 (by omega) V1.ok, V1.len]
    by_cases g2 : (NA : Int) + NB ≤ rm
    · have T2 : ∀ k, lrun Try.prog C0 (lcall Try.prog C0 (k + 102)) (k + 102) 56 [.ptr 0 0, .isl 1 (bys (zb b))] ⟨2, [(0, chO 0 NA (1 + NA)), (1, dO rm [] p1)]⟩ = some (.tup [.int .i64 NA, .nili], ⟨2, [(0, chO 0 (NA + NB) (1 + NA + NB)), (1, dO rm [] (putP (1 + NA) NA (zb b) p1 NB))]⟩) := fun k => by
        have := put_fits (k + 42) 0 (1 + NA) rm NA p1 (zb b) (by omega) (by omega) (by omega) (by omega) (by omega) V1 (by rw [hNB]; omega) (by omega)
        rw [hNB] at this
        exact this
      exact full_oo 0 rm a b NA NB (1 + NA) (1 + NA + NB) p1 _ h0 h1 ha ha2 hb hb2 (by omega) (by omega) (by omega) (by omega) (by omega) (by omega) (by omega) (by omega) (by omega) (by omega) g1 g2
        (fun k => append_thru k (zb a) (by omega) (by omega) 0 0 1 NA (1 + NA) rm [] [] p1 T1)
        (fun k => append_thru k (zb b) (by omega) (by omega) 0 NA (1 + NA) (NA + NB) (1 + NA + NB) rm [] p1 _ T2) BA BB U1 works_chain
    · have T2 : ∀ k, lrun Try.prog C0 (lcall Try.prog C0 (k + 102)) (k + 102) 56 [.ptr 0 0, .isl 1 (bys (zb b))] ⟨2, [(0, chO 0 NA (1 + NA)), (1, dO rm [] p1)]⟩ = some (.tup [.int .i64 0, fullE NA], ⟨2, [(0, chO 0 NA (1 + NA)), (1, dO rm [] p1)]⟩) := fun k =>
        put_out (k + 42) 0 (1 + NA) rm NA p1 (zb b) (by omega) (by omega) (by omega) (by omega) V1 (by rw [hNB]; omega)
      exact full_of 0 rm a b NA NB (1 + NA) 0 p1 [] h0 h1 ha ha2 hb hb2 (by omega) (by omega) (by omega) (by omega) (by omega) (by omega) (by omega) (by omega) (by omega) (by omega) g1 (by omega)
        (fun k => append_thru k (zb a) (by omega) (by omega) 0 0 1 NA (1 + NA) rm [] [] p1 T1)
        (fun k => append_full k (zb b) (by omega) (by omega) 0 NA (1 + NA) rm [] p1 T2) BA BB U1 works_chain
  · have T1 : ∀ k, lrun Try.prog C0 (lcall Try.prog C0 (k + 102)) (k + 102) 56 [.ptr 0 0, .isl 1 (bys (zb a))] ⟨2, [(0, chO 0 0 1), (1, dO rm [] [])]⟩ = some (.tup [.int .i64 0, fullE 0], ⟨2, [(0, chO 0 0 1), (1, dO rm [] [])]⟩) := fun k =>
      put_out (k + 42) 0 1 rm 0 [] (zb a) (by omega) (by simp) (by omega) (by omega) Upto.nil (by rw [hNA]; simp; omega)
    by_cases g2 : (0 : Int) + NB ≤ rm
    · have T2 : ∀ k, lrun Try.prog C0 (lcall Try.prog C0 (k + 102)) (k + 102) 56 [.ptr 0 0, .isl 1 (bys (zb b))] ⟨2, [(0, chO 0 0 1), (1, dO rm [] [])]⟩ = some (.tup [.int .i64 0, .nili], ⟨2, [(0, chO 0 (0 + NB) (1 + NB)), (1, dO rm [] (putP 1 0 (zb b) [] NB))]⟩) := fun k => by
        have := put_fits (k + 42) 0 1 rm 0 [] (zb b) (by omega) (by simp) (by omega) (by omega) (by omega) Upto.nil (by rw [hNB]; omega) (by omega)
        rw [hNB] at this
        exact this
      exact full_fo 0 rm a b NA NB 0 (1 + NB) [] _ h0 h1 ha ha2 hb hb2 (by omega) (by omega) (by omega) (by omega) (by omega) (by omega) (by omega) (by omega) (by omega) (by omega) (by omega) g2
        (fun k => append_full k (zb a) (by omega) (by omega) 0 0 1 rm [] [] T1)
        (fun k => append_thru k (zb b) (by omega) (by omega) 0 0 1 (0 + NB) (1 + NB) rm [] [] _ T2) BA BB U0 works_chain
    · have T2 : ∀ k, lrun Try.prog C0 (lcall Try.prog C0 (k + 102)) (k + 102) 56 [.ptr 0 0, .isl 1 (bys (zb b))] ⟨2, [(0, chO 0 0 1), (1, dO rm [] [])]⟩ = some (.tup [.int .i64 0, fullE 0], ⟨2, [(0, chO 0 0 1), (1, dO rm [] [])]⟩) := fun k =>
        put_out (k + 42) 0 1 rm 0 [] (zb b) (by omega) (by simp) (by omega) (by omega) Upto.nil (by rw [hNB]; simp; omega)
      exact full_ff 0 rm a b NA NB 0 0 [] [] h0 h1 ha ha2 hb hb2 (by omega) (by omega) (by omega) (by omega) (by omega) (by omega) (by omega) (by omega) (by omega) (by omega) (by omega) (by omega)
        (fun k => append_full k (zb a) (by omega) (by omega) 0 0 1 rm [] [] T1)
        (fun k => append_full k (zb b) (by omega) (by omega) 0 0 1 rm [] [] T2) BA BB U0 works_chain
theorem full_lcall (rm a b : Int) (h0 : 0 ≤ rm) (h1 : rm ≤ 255) (ha : 0 ≤ a) (ha2 : a ≤ 65535) (hb : 0 ≤ b) (hb2 : b ≤ 65535) :
    lcall Try.prog C0 201 8 [.int .u8 rm, .int .u16 a, .int .u16 b] ⟨0, []⟩ = some (.bool true, ⟨0, []⟩) := by
  have h := full_ok rm a b h0 h1 ha ha2 hb hb2
  have hr : refsL [LV.int .u8 rm, .int .u16 a, .int .u16 b] = [] := rfl
  have e : renL (fun b => ixOf [] b 0) [LV.int .u8 rm, .int .u16 a, .int .u16 b] = [LV.int .u8 rm, .int .u16 a, .int .u16 b] := rfl
  rw [← e] at h
  exact lcall_nil hr h
end Go.Mac

namespace Go.Mac
open Go Go.Eng Go.Proofs
set_option maxHeartbeats 0
set_option maxRecDepth 100000
set_option linter.unusedSimpArgs false
def C1 : Cfg := ⟨fun _ => none, fun f => f == 40⟩
theorem right_ok1 (n : Nat) (at_ : Int) (h : 0 ≤ at_) (h2 : at_ ≤ 1073741824) : lrun Try.prog C1 (lcall Try.prog C1 (n + 9)) (n + 9) 44 [.int .i64 at_] ⟨0, []⟩ = some (.nili, ⟨0, []⟩) := by
  have f1 : decide (at_ < 0) = false := by (simp [-List.reduceReplicate]; omega)
  have f2 : LV.bool (if decide (at_ < 0) = true then true else decide (1073741824 < at_)) = LV.bool false := by (simp [-List.reduceReplicate]; omega)
  exact drun_ok (fun h => And.intro (congrArg some f1) <| And.intro (congrArg some f1) <| And.intro (f2) <| h) (.s (.a) (.s (.s (.r [.a, .a, .a, .g false (.a), .g false (.a), .v (vOf f2) (.a)]) (.a)) (.a))) [] .a (by kernel_rfl)
theorem right_no1 (n : Nat) (at_ : Int) (h : at_ < 0 ∨ 1073741824 < at_) : lrun Try.prog C1 (lcall Try.prog C1 (n + 9)) (n + 9) 44 [.int .i64 at_] ⟨0, []⟩ = some (.ifc 115 (.agg [.str [98,108,111,99,107], .int .i64 at_, .ifc 71 (.int .i64 2)]), ⟨0, []⟩) := by
  by_cases h1 : at_ < 0
  · have f1 : decide (at_ < 0) = true := by (simp [-List.reduceReplicate]; omega)
    have f2 : lpick (decide (at_ < 0)) (LV.bool true) LV.any = some (LV.bool true) := by (simp [-List.reduceReplicate]; omega)
    exact drun_ok (fun h => And.intro (congrArg some f1) <| And.intro (congrArg some f1) <| And.intro (x_map (st := (St.mk 0 [])) f2) <| h) (.s (.a) (.s (.s (.r [.a, .a, .a, .g true (.a), .g true (.a), .t (rOf (x_map (st := (St.mk 0 [])) f2))]) (.a)) .a)) [] .a (by kernel_rfl)
  · have : 1073741824 < at_ := by omega
    have f1 : decide (at_ < 0) = false := by (simp [-List.reduceReplicate]; omega)
    have f2 : LV.bool (if decide (at_ < 0) = true then true else decide (1073741824 < at_)) = LV.bool true := by (simp [-List.reduceReplicate]; omega)
    exact drun_ok (fun h => And.intro (congrArg some f1) <| And.intro (congrArg some f1) <| And.intro (f2) <| h) (.s (.a) (.s (.s (.r [.a, .a, .a, .g false (.a), .g false (.a), .v (vOf f2) (.a)]) (.a)) .a)) [] .a (by kernel_rfl)
theorem whole_ok1 (n : Nat) (b : List Int) : lrun Try.prog C1 (lcall Try.prog C1 (n + 9)) (n + 9) 40 [.isl 1 (bys b)] ⟨0, []⟩ = some (.sl 1 0 0 64 none, ⟨1, [(0, .row 5 1 (bys (blk b)))]⟩) := by
  have f1 : okElems true 1 (sealL (bys b)) = true := by simp
  have f2 : 64 ≤ 64 := by omega
  have f3 : LV.int IntKind.i64 (↑(min (List.length (sealL (bys b))) 64) : Int) = LV.int IntKind.i64 (↑(min (List.length b) 64) : Int) := by simp
  have f4 : LObj.row 5 1 (lsplice (List.replicate 64 (LV.int IntKind.u8 0)) 0 (List.take (min (List.length (sealL (bys b))) 64) (sealL (bys b)))) = LObj.row 5 1 (bys (spliceI (List.replicate 64 0) 0 (List.take (min (List.length b) 64) b))) := by simp
  exact drun_ok (fun h => And.intro (f1) <| And.intro (f2) <| And.intro (f3) <| And.intro (congrArg some f4) <| h) (.s (.a) (.s (.a) (.s (.r [.a, .a, .x 0 (vOf f4) (.v (vOf f3) (.q))]) (.a)))) [] .a (by kernel_rfl)
theorem whole_nil1 (n : Nat) : lrun Try.prog C1 (lcall Try.prog C1 (n + 9)) (n + 9) 40 [.nils] ⟨0, []⟩ = some (.sl 1 0 0 64 none, ⟨1, [(0, .row 5 1 (bys (blk [])))]⟩) := by
  exact drun_ok (fun h => h) (.a) [] .a (by kernel_rfl)
end Go.Mac

namespace Go.Proofs.Ytddbfjgodbfaoaa.T
open Go Go.Eng Go.Mac Go.Proofs.Ytddbfjgodbfaoaa.Ty
set_option linter.unusedSimpArgs false
set_option linter.unusedVariables false

theorem extC1 : ExtSound Try.prog C1 := fun f F h => by simp [C1] at h
theorem mixed : Try.prog.follows .mixedOrders = true := by kernel_rfl
def R1 : Inst := ⟨id, id, fun _ => false⟩
theorem Meets.wkpost {P : Program} {f : FuncId} {as_ : List AV} {s : Hp} {K : AV → Hp → Prop} (h : Meets P f as_ s (fun r t => ∃ r' t', Wk r r' ∧ HpWk t t' ∧ K r' t')) : Meets P f as_ s K :=
  Meets.sw (h.mono fun r t ⟨r', t', h1, h2, h3⟩ => ⟨r', t', SW.wk (fun _ => h1) h2, h3⟩)
theorem meets_run {n : Nat} {f : FuncId} {as_ : List LV} {v : LV} {st : St} (h : lrun Try.prog C1 (lcall Try.prog C1 n) n f as_ ⟨0, []⟩ = some (v, st)) (hr : refsL as_ = []) {K : AV → Hp → Prop}
    (hk : ∀ R t, SRel Try.prog R st t → (∀ b ∈ refs v, b < st.next) → K (inst R true v) t) : Meets Try.prog f (instL R1 true as_) [] K := by
  have := lrun_sound extC1 mixed (lcall_sound extC1 mixed n) h R1 [] (SRel.empty _ _) (by rw [hr]; simp)
  refine Meets.wkpost (this.mono ?_)
  rintro r t ⟨R', s', _, _, g3, g4, g5, g6⟩
  exact ⟨_, s', g3, g5, hk R' s' g6 g4⟩
theorem srel_nil {P : Program} {R : Inst} {t : Hp} (h : SRel P R ⟨0, []⟩ t) : t = [] := by
  have := h.ents
  cases this; rfl
theorem right_av (at_ : Int) (h : 0 ≤ at_ ∧ at_ ≤ 1073741824) (s : Hp) (K : AV → Hp → Prop) (hk : K (.v .nilIface) s) : Meets Try.prog 44 [.v (.int .i64 at_)] s K := by
  refine Meets.alone ?_
  have := meets_run (K := fun r t => K r s) (right_ok1 0 at_ h.1 h.2) (by simp [refsL, refs]) (fun R t ht _ => by simpa [inst] using hk)
  simpa [instL, inst] using this
theorem right_av_no (at_ : Int) (h : at_ < 0 ∨ 1073741824 < at_) (s : Hp) (K : AV → Hp → Prop) (hk : K (.ifc 115 (.agg [.v (.string ⟨#[98,108,111,99,107]⟩), .v (.int .i64 at_), .v (.iface 71 (.int .i64 2))])) s) : Meets Try.prog 44 [.v (.int .i64 at_)] s K := by
  refine Meets.alone ?_
  have := meets_run (K := fun r t => K r s) (right_no1 0 at_ h) (by simp [refsL, refs]) (fun R t ht _ => by simpa [inst, instL, mkIfc] using hk)
  simpa [instL, inst] using this
/-- What a block's bytes are, whole. -/
def cel (b : List Int) : List AV := b.map fun n => .v (.int .u8 n)
theorem cel_bys (R : Inst) (l : Bool) (b : List Int) : instL R l (bys b) = cel b := by
  rw [instL_eq]; unfold bys cel
  rw [List.map_map]
  apply List.map_congr_left
  intro x _
  cases l <;> simp [inst]
theorem cel_flat (b : List Int) : (cel b).flatMap cellsOf = cel b := by
  unfold cel
  induction b with
  | nil => rfl
  | cons x b ih => rw [List.map_cons, List.flatMap_cons, ih]; rfl
theorem whole_end {b : List Int} {R : Inst} {t : Hp} (ht : SRel Try.prog R ⟨1, [(0, .row 5 1 (bys (blk b)))]⟩ t) :
    ∃ q cap, 64 ≤ cap ∧ cap ≤ maxLen ∧ inst R true (.sl 1 0 0 64 none) = .v (.slice (some ⟨q, 0, none⟩) 64 cap) ∧ t = [(q, .cells 5 (cel (blk b)) (cap * 1))] := by
  have he := ht.ents
  cases he with
  | cons ho hrest =>
    cases hrest
    generalize hx : bys (blk b) = xs at ho
    have hxl : xs.length = 64 := by rw [← hx]; simp
    cases ho with
    | rowNil _ _ hz => simp at hxl
    | row _ _ _ hz ok =>
      subst hx
      refine ⟨R.ρ 0, R.κ 0, ?_, ok.cap, ?_, ?_⟩
      · have := ok.le; rw [hxl] at this; exact this
      · simp [inst, slInst, hz]
      · rw [cel_bys, cel_flat]; rfl
theorem whole_av (b : List Int) (s : Hp) (K : AV → Hp → Prop) (hk : ∀ q cap, q ∉ s.keys → 64 ≤ cap → cap ≤ maxLen → K (.v (.slice (some ⟨q, 0, none⟩) 64 cap)) ((q, .cells 5 (cel (blk b)) (cap * 1)) :: s)) :
    Meets Try.prog 40 [.sl 1 (cel b)] s K := by
  have h0 : Meets Try.prog 40 [.sl 1 (cel b)] [] (fun r t => ∃ q cap, 64 ≤ cap ∧ cap ≤ maxLen ∧ r = .v (.slice (some ⟨q, 0, none⟩) 64 cap) ∧ t = [(q, .cells 5 (cel (blk b)) (cap * 1))]) := by
    have := meets_run (K := fun r t => ∃ q cap, 64 ≤ cap ∧ cap ≤ maxLen ∧ r = .v (.slice (some ⟨q, 0, none⟩) 64 cap) ∧ t = [(q, .cells 5 (cel (blk b)) (cap * 1))]) (whole_ok1 0 b) (by simp [refsL, refs]) (fun R t ht _ => by
      obtain ⟨q, cap, h1, h2, h3, h4⟩ := whole_end ht
      exact ⟨q, cap, h1, h2, h3, h4⟩)
    simpa [instL, inst, cel_bys] using this
  refine Meets.kn (Meets.frame (s := []) (t := s) (h0.mono ?_))
  rintro r t ⟨q, cap, h1, h2, rfl, rfl⟩
  intro hn
  exact hk q cap (List.nodup_cons.1 hn).1 h1 h2
theorem whole_av_nil (s : Hp) (K : AV → Hp → Prop) (hk : ∀ q cap, q ∉ s.keys → 64 ≤ cap → cap ≤ maxLen → K (.v (.slice (some ⟨q, 0, none⟩) 64 cap)) ((q, .cells 5 (cel (blk [])) (cap * 1)) :: s)) :
    Meets Try.prog 40 [.v (.slice none 0 0)] s K := by
  have h0 : Meets Try.prog 40 [.v (.slice none 0 0)] [] (fun r t => ∃ q cap, 64 ≤ cap ∧ cap ≤ maxLen ∧ r = .v (.slice (some ⟨q, 0, none⟩) 64 cap) ∧ t = [(q, .cells 5 (cel (blk [])) (cap * 1))]) := by
    have := meets_run (K := fun r t => ∃ q cap, 64 ≤ cap ∧ cap ≤ maxLen ∧ r = .v (.slice (some ⟨q, 0, none⟩) 64 cap) ∧ t = [(q, .cells 5 (cel (blk [])) (cap * 1))]) (whole_nil1 0) (by simp [refsL, refs]) (fun R t ht _ => by
      obtain ⟨q, cap, h1, h2, h3, h4⟩ := whole_end ht
      exact ⟨q, cap, h1, h2, h3, h4⟩)
    simpa [instL, inst] using this
  refine Meets.kn (Meets.frame (s := []) (t := s) (h0.mono ?_))
  rintro r t ⟨q, cap, h1, h2, rfl, rfl⟩
  intro hn
  exact hk q cap (List.nodup_cons.1 hn).1 h1 h2
def optC : Option (List Int) → AV
  | none => .v (.slice none 0 0)
  | some b => .sl 1 (cel b)
theorem optC_one (w : Option (List Int)) : (optC w).one = true := by cases w <;> rfl
theorem optC_cells (w : Option (List Int)) : cellsOf (optC w) = [optC w] := cells_one (optC_one w)
theorem whole_any (o : Option (List Int)) (s : Hp) (K : AV → Hp → Prop) (hk : ∀ q cap, q ∉ s.keys → 64 ≤ cap → cap ≤ maxLen → K (.v (.slice (some ⟨q, 0, none⟩) 64 cap)) ((q, .cells 5 (cel (blk (o.getD []))) (cap * 1)) :: s)) :
    Meets Try.prog 40 [optC o] s K := by
  cases o with
  | none => exact whole_av_nil s K hk
  | some b => exact whole_av b s K hk
def pC (w : Int × Option (List Int)) : AV := .agg [.v (.int .i64 w.1), optC w.2]
/-- The last write of a block. -/
def lastC (at_ : Int) : List (Int × Option (List Int)) → Option (Option (List Int))
  | [] => none
  | (a, b) :: l => match lastC at_ l with
    | some x => some x
    | none => if a = at_ then some b else none
theorem lastC_take {at_ : Int} : ∀ {ps : List (Int × Option (List Int))} {i : Nat}, (∀ j (h : j < ps.length), i < j → ps[j].1 ≠ at_) → (h : i < ps.length) → ps[i].1 = at_ → lastC at_ ps = some ps[i].2
  | [], i, _, h, _ => by simp at h
  | (a, b) :: l, 0, hn, h, he => by
    have hl : ∀ l : List (Int × Option (List Int)), (∀ x ∈ l, x.1 ≠ at_) → lastC at_ l = none := by
      intro l
      induction l with
      | nil => intro _; rfl
      | cons x l ih =>
        intro hx
        unfold lastC
        rw [ih (fun y hy => hx y (List.mem_cons_of_mem _ hy)), if_neg (hx x List.mem_cons_self)]
    have : lastC at_ l = none := hl l (fun x hx => by
      obtain ⟨j, hj, rfl⟩ := List.mem_iff_getElem.1 hx
      exact hn (j + 1) (by simpa using hj) (by omega))
    have he' : a = at_ := he
    unfold lastC
    rw [this, if_pos he']
    rfl
  | (a, b) :: l, i + 1, hn, h, he => by
    have := lastC_take (ps := l) (i := i) (fun j hj hij => by have := hn (j + 1) (by simpa using hj) (by omega); simpa using this) (by simpa using h) (by simpa using he)
    unfold lastC
    rw [this]
    rfl
theorem lastC_none {at_ : Int} : ∀ {l : List (Int × Option (List Int))}, (∀ x ∈ l, x.1 ≠ at_) → lastC at_ l = none
  | [], _ => rfl
  | x :: l, hx => by
    unfold lastC
    rw [lastC_none (fun y hy => hx y (List.mem_cons_of_mem _ hy)), if_neg (hx x List.mem_cons_self)]
/-- What is read. -/
def readC (at_ : Int) (es : List (Int × List Int)) (ps : List (Int × Option (List Int))) : List Int :=
  match lastC at_ ps with
  | some o => blk (o.getD [])
  | none => blk ((Pl.pget es at_).getD [])
def mC (es : List (Int × List Int)) : List (Int × AV) := Pl.gmap (fun b => .sl 1 (cel b)) es
end Go.Proofs.Ytddbfjgodbfaoaa.T
