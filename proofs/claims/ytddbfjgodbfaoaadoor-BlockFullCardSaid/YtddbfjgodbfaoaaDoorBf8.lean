/-
  BlockFull: for every input that the given row lets in, the law returns true and each argument reads as it did; the one package variable that the row lists (errors.errorType) is tied to the program's text by the given tie. No further condition.
-/
import Derived.Test.YtddbfjgodbfaoaaDoorBf3
import Derived.Test.YtddbfjgodbfaoaaDoorBf5
import Derived.Test.YtddbfjgodbfaoaaDoorBf6
import Derived.Test.YtddbfjgodbfaoaaDoorBf7
import Derived.Test.YtddbfjgodbfaoaaDoorProg
import Derived.KernelRfl
import Derived.Test.YtddbfjgodbfaoaaDoorRows
import Derived.ChangeSame
import Derived.ChangeVars
import Derived.RowKitTokens
import Derived.LaidLaws
import Derived.LaidHandle
import Derived.Stop.Joined
import Derived.Test.YtddbfjgodbfaoaaDoorTie
import Derived.Test.YtddbfjgodbfaoaaDoorCards
import Derived.SevenTiedAt
set_option linter.unusedVariables false
set_option linter.unusedSimpArgs false
namespace Go.Mac
open Go Go.Eng Go.Proofs
set_option linter.unusedVariables false
set_option maxHeartbeats 0
set_option maxRecDepth 100000
theorem write_newN (n : Nat) (at_ : Int) (rm : Int) (m : List (Int × List Int)) (p : List (Int × Option (List Int))) (h0 : 0 ≤ at_) (h1 : at_ ≤ 1073741824) (hp : p.length ≤ 1000000) (ho : okP p)
    (hk : kget (needs m p) at_ = none) (hr : (needs m p).length < rm) :
    lrun Tryd.prog C0 (lcall Tryd.prog C0 (n + 20)) (n + 20) 19 [.ptr 0 0, .int .i64 at_, .nils] ⟨1, [(0, dO rm m p)]⟩ = some (.nili, ⟨1, [(0, dO rm m (p ++ [(at_, some (List.replicate 64 0))]))]⟩) := by
  have f1 := right_ok (n + 10) at_ h0 h1
  have f2 := needs_ok (n + 19) rm m p hp ho
  have f3 : LObj.map IntKind.i64 (List.zip (mapK m) (mapV m)) = LObj.map IntKind.i64 (mapE m) := by simp
  have f4 : LObj.box 64 [LV.int IntKind.i64 rm, LV.map 2, LV.sl 2 3 0 (List.length (pnds p)) none] = LObj.box 64 [LV.int IntKind.i64 rm, LV.map 2, LV.sl 2 3 0 (List.length p) none] := by simp
  have f5 : kget (needs m p) at_ = none := hk
  have f6 : LV.bool (if true = true then decide (rm ≤ (↑(List.length (needs m p)) : Int)) else false) = LV.bool false := by (simp [-List.reduceReplicate]; omega)
  have f7 : 1 ≤ 1 := by omega
  have f8 : List.length (pnds p) = List.length p ∧ (List.length p + 1) * 32 ≤ 140737488355328 := by (simp [-List.reduceReplicate]; omega)
  have f9 : LObj.row 90 2 (pnds p ++ List.take 1 (List.drop 0 (List.set [LV.agg [LV.int IntKind.i64 0, LV.nils]] 0 (LV.agg [LV.int IntKind.i64 at_, LV.isl 1 (List.take 64 (List.drop 0 (lsplice (List.replicate 64 (LV.int IntKind.u8 0)) 0 [])))])))) = LObj.row 90 2 (pnds (p ++ [(at_, some (List.replicate 64 0))])) := by simp
  have f10 : LObj.row 90 2 (List.set [LV.agg [LV.int IntKind.i64 0, LV.nils]] 0 (LV.agg [LV.int IntKind.i64 at_, LV.isl 1 (List.take 64 (List.drop 0 (lsplice (List.replicate 64 (LV.int IntKind.u8 0)) 0 [])))])) = LObj.row 90 2 [LV.agg [LV.int IntKind.i64 at_, LV.isl 1 (bys (List.replicate 64 0))]] := by simp
  have f11 : List.length (pnds (p ++ [(at_, some (List.replicate 64 0))])) = List.length p + 1 := by simp
  have f12 : (LV.nili, St.mk 1 [(0, LObj.box 64 [LV.int IntKind.i64 rm, LV.omap IntKind.i64 (List.map (fun x => Prod.fst x) (mapE m)) (List.map (fun x => Prod.snd x) (mapE m)), LV.own 90 2 (pnds (p ++ [(at_, some (List.replicate 64 0))]))])]) = (LV.nili, St.mk 1 [(0, dO rm m (p ++ [(at_, some (List.replicate 64 0))]))]) := by simp
  exact drun_ok (fun h => And.intro (f1) <| And.intro (f2) <| And.intro (congrArg some f3) <| And.intro (congrArg some f4) <| And.intro (f5) <| And.intro (f6) <| And.intro (f7) <| And.intro (f8) <| And.intro (congrArg some f9) <| And.intro (congrArg some f10) <| And.intro (f11) <| f12) (.s (.a) (.s (.s (.r [.a, .f (rOf f1)]) (.a)) (.s (.a) (.s (.r [.a, .f (rOf f2)]) (.s (.s (.d [.x 2 (vOf f3), .x 0 (vOf f4)] [.a, .a, .o (vOf f5), .a, .a, .a, .a, .a, .a, .a, .a] [] [.a, .v (vOf f6) (.a)]) (.a)) (.s (.a) (.s (.a) (.s (.r [.a, .a, .a, .a, .a, .a, .a, .a, .a, .x 5 (vOf f10) (.x 6 (vOf f9) (.q))]) (.a))))))))) [] .q (by kernel_rfl)
theorem write_oldN (n : Nat) (at_ : Int) (rm : Int) (m : List (Int × List Int)) (p : List (Int × Option (List Int))) (h0 : 0 ≤ at_) (h1 : at_ ≤ 1073741824) (hp : p.length ≤ 1000000) (ho : okP p)
    (c : Int) (hk : kget (needs m p) at_ = some (.int .i64 c)) (hc : 0 < c) :
    lrun Tryd.prog C0 (lcall Tryd.prog C0 (n + 20)) (n + 20) 19 [.ptr 0 0, .int .i64 at_, .nils] ⟨1, [(0, dO rm m p)]⟩ = some (.nili, ⟨1, [(0, dO rm m (p ++ [(at_, some (List.replicate 64 0))]))]⟩) := by
  have f1 := right_ok (n + 10) at_ h0 h1
  have f2 := needs_ok (n + 19) rm m p hp ho
  have f3 : LObj.map IntKind.i64 (List.zip (mapK m) (mapV m)) = LObj.map IntKind.i64 (mapE m) := by simp
  have f4 : LObj.box 64 [LV.int IntKind.i64 rm, LV.map 2, LV.sl 2 3 0 (List.length (pnds p)) none] = LObj.box 64 [LV.int IntKind.i64 rm, LV.map 2, LV.sl 2 3 0 (List.length p) none] := by simp
  have f5 : kget (needs m p) at_ = some (LV.int IntKind.i64 c) := hk
  have f6 : decide (c = 0) = false := by (simp [-List.reduceReplicate]; omega)
  have f7 : lpick (decide (c = 0)) LV.any (LV.bool false) = some (LV.bool false) := by (simp [-List.reduceReplicate]; omega)
  have f8 : 1 ≤ 1 := by omega
  have f9 : List.length (pnds p) = List.length p ∧ (List.length p + 1) * 32 ≤ 140737488355328 := by (simp [-List.reduceReplicate]; omega)
  have f10 : LObj.row 90 2 (pnds p ++ List.take 1 (List.drop 0 (List.set [LV.agg [LV.int IntKind.i64 0, LV.nils]] 0 (LV.agg [LV.int IntKind.i64 at_, LV.isl 1 (List.take 64 (List.drop 0 (lsplice (List.replicate 64 (LV.int IntKind.u8 0)) 0 [])))])))) = LObj.row 90 2 (pnds (p ++ [(at_, some (List.replicate 64 0))])) := by simp
  have f11 : LObj.row 90 2 (List.set [LV.agg [LV.int IntKind.i64 0, LV.nils]] 0 (LV.agg [LV.int IntKind.i64 at_, LV.isl 1 (List.take 64 (List.drop 0 (lsplice (List.replicate 64 (LV.int IntKind.u8 0)) 0 [])))])) = LObj.row 90 2 [LV.agg [LV.int IntKind.i64 at_, LV.isl 1 (bys (List.replicate 64 0))]] := by simp
  have f12 : List.length (pnds (p ++ [(at_, some (List.replicate 64 0))])) = List.length p + 1 := by simp
  have f13 : (LV.nili, St.mk 1 [(0, LObj.box 64 [LV.int IntKind.i64 rm, LV.omap IntKind.i64 (List.map (fun x => Prod.fst x) (mapE m)) (List.map (fun x => Prod.snd x) (mapE m)), LV.own 90 2 (pnds (p ++ [(at_, some (List.replicate 64 0))]))])]) = (LV.nili, St.mk 1 [(0, dO rm m (p ++ [(at_, some (List.replicate 64 0))]))]) := by simp
  exact drun_ok (fun h => And.intro (f1) <| And.intro (f2) <| And.intro (congrArg some f3) <| And.intro (congrArg some f4) <| And.intro (f5) <| And.intro (congrArg some f6) <| And.intro (congrArg some f6) <| And.intro (congrArg some f6) <| And.intro (congrArg some f6) <| And.intro (congrArg some f6) <| And.intro (congrArg some f6) <| And.intro (congrArg some f6) <| And.intro (x_map (st := (St.mk 4 [(3, LObj.row 90 2 (pnds p)), (2, LObj.map IntKind.i64 (mapE m)), (0, LObj.box 64 [LV.int IntKind.i64 rm, LV.map 2, LV.sl 2 3 0 (List.length p) none]), (1, LObj.map IntKind.i64 (needs m p))])) f7) <| And.intro (f8) <| And.intro (f9) <| And.intro (congrArg some f10) <| And.intro (congrArg some f11) <| And.intro (f12) <| f13) (.s (.a) (.s (.s (.r [.a, .f (rOf f1)]) (.a)) (.s (.a) (.s (.r [.a, .f (rOf f2)]) (.s (.s (.d [.x 2 (vOf f3), .x 0 (vOf f4)] [.a, .a, .o (vOf f5), .a, .a, .g false (.a), .g false (.a), .g false (.a), .g false (.a), .g false (.a), .g false (.a)] [] [.g false (.a), .t (rOf (x_map (st := (St.mk 4 [(3, LObj.row 90 2 (pnds p)), (2, LObj.map IntKind.i64 (mapE m)), (0, LObj.box 64 [LV.int IntKind.i64 rm, LV.map 2, LV.sl 2 3 0 (List.length p) none]), (1, LObj.map IntKind.i64 (needs m p))])) f7))]) (.a)) (.s (.a) (.s (.a) (.s (.r [.a, .a, .a, .a, .a, .a, .a, .a, .a, .x 5 (vOf f11) (.x 6 (vOf f10) (.q))]) (.a))))))))) [] .q (by kernel_rfl)
theorem write_fullN (n : Nat) (at_ : Int) (rm : Int) (m : List (Int × List Int)) (p : List (Int × Option (List Int))) (h0 : 0 ≤ at_) (h1 : at_ ≤ 1073741824) (hp : p.length ≤ 1000000) (ho : okP p)
    (hk : kget (needs m p) at_ = none) (hr : rm ≤ (needs m p).length) :
    lrun Tryd.prog C0 (lcall Tryd.prog C0 (n + 20)) (n + 20) 19 [.ptr 0 0, .int .i64 at_, .nils] ⟨1, [(0, dO rm m p)]⟩ = some (flt [98,108,111,99,107] at_ 7, ⟨1, [(0, dO rm m p)]⟩) := by
  have f1 := right_ok (n + 10) at_ h0 h1
  have f2 := needs_ok (n + 19) rm m p hp ho
  have f3 : LObj.map IntKind.i64 (List.zip (mapK m) (mapV m)) = LObj.map IntKind.i64 (mapE m) := by simp
  have f4 : LObj.box 64 [LV.int IntKind.i64 rm, LV.map 2, LV.sl 2 3 0 (List.length (pnds p)) none] = LObj.box 64 [LV.int IntKind.i64 rm, LV.map 2, LV.sl 2 3 0 (List.length p) none] := by simp
  have f5 : kget (needs m p) at_ = none := hk
  have f6 : LV.bool (if true = true then decide (rm ≤ (↑(List.length (needs m p)) : Int)) else false) = LV.bool true := by (simp [-List.reduceReplicate]; omega)
  have f7 : List.length (pnds p) = List.length p := by simp
  have f8 : (LV.ifc 95 (LV.agg [LV.str [98, 108, 111, 99, 107], LV.int IntKind.i64 at_, LV.ifc 31 (LV.int IntKind.i64 7)]), St.mk 1 [(0, LObj.box 64 [LV.int IntKind.i64 rm, LV.omap IntKind.i64 (List.map (fun x => Prod.fst x) (mapE m)) (List.map (fun x => Prod.snd x) (mapE m)), LV.own 90 2 (pnds p)])]) = (flt [98, 108, 111, 99, 107] at_ 7, St.mk 1 [(0, dO rm m p)]) := by simp
  exact drun_ok (fun h => And.intro (f1) <| And.intro (f2) <| And.intro (congrArg some f3) <| And.intro (congrArg some f4) <| And.intro (f5) <| And.intro (f6) <| And.intro (f7) <| f8) (.s (.a) (.s (.s (.r [.a, .f (rOf f1)]) (.a)) (.s (.a) (.s (.r [.a, .f (rOf f2)]) (.s (.s (.d [.x 2 (vOf f3), .x 0 (vOf f4)] [.a, .a, .o (vOf f5), .a, .a, .a, .a, .a, .a, .a, .a] [] [.a, .v (vOf f6) (.a)]) (.a)) .a))))) [] .q (by kernel_rfl)
abbrev flE (rm at_ : Int) (l : List Act5) (i : Int) : LEnv := [LV.int IntKind.u8 rm, LV.isl 5 (ops5 l), LV.int IntKind.u16 at_, LV.any, LV.any, LV.any, LV.any, LV.ptr 0 0, LV.any, LV.int IntKind.i64 i, LV.any, LV.any, LV.any, LV.any, LV.any, LV.any, LV.any, LV.any, LV.any, LV.any, LV.any, LV.any, LV.any, LV.any, LV.any, LV.any, LV.any, LV.any, LV.any, LV.any, LV.any, LV.any, LV.any, LV.any, LV.any, LV.any, LV.any, LV.any, LV.any, LV.any, LV.any, LV.any, LV.any, LV.any, LV.any, LV.any, LV.any, LV.any, LV.any, LV.any, LV.any, LV.any, LV.any, LV.any, LV.any, LV.any, LV.any, LV.any, LV.any, LV.any, LV.any, LV.any, LV.any, LV.any, LV.any, LV.any, LV.any, LV.any, LV.any, LV.any, LV.any, LV.any, LV.any, LV.any, LV.any, LV.any, LV.any, LV.any, LV.any, LV.any, LV.any, LV.any, LV.any, LV.any, LV.any, LV.any, LV.any, LV.any, LV.any, LV.any, LV.any, LV.any, LV.any, LV.any, LV.any, LV.any, LV.any, LV.any, LV.any, LV.any, LV.any, LV.any, LV.any, LV.any, LV.any, LV.any, LV.any, LV.any, LV.any, LV.any, LV.any, LV.any, LV.any, LV.any, LV.any, LV.any, LV.any, LV.any, LV.any, LV.any, LV.any, LV.any, LV.any, LV.any, LV.any, LV.any, LV.any, LV.any, LV.any, LV.any, LV.any, LV.any]
abbrev flX (rm at_ : Int) (l : List Act5) (i : Int) : LEnv := [LV.int IntKind.u8 rm, LV.isl 5 (ops5 l), LV.int IntKind.u16 at_, LV.any, LV.any, LV.any, LV.any, LV.ptr 0 0, LV.any, LV.int IntKind.i64 i, LV.any, LV.any, LV.any, LV.any, LV.any, LV.any, LV.any, LV.any, LV.any, LV.any, LV.any, LV.any, LV.any, LV.any, LV.any, LV.any, LV.any, LV.any, LV.any, LV.any, LV.any, LV.any, LV.int IntKind.i64 i, LV.isl 5 (ops5 l), LV.int IntKind.i64 l.length, LV.bool (decide (i < (l.length : Int))), LV.any, LV.any, LV.any, LV.any, LV.any, LV.any, LV.any, LV.any, LV.any, LV.any, LV.any, LV.any, LV.any, LV.any, LV.any, LV.any, LV.any, LV.any, LV.any, LV.any, LV.any, LV.any, LV.any, LV.any, LV.any, LV.any, LV.any, LV.any, LV.any, LV.any, LV.any, LV.any, LV.any, LV.any, LV.any, LV.any, LV.any, LV.any, LV.any, LV.any, LV.any, LV.any, LV.any, LV.any, LV.any, LV.any, LV.any, LV.any, LV.any, LV.any, LV.any, LV.any, LV.any, LV.any, LV.any, LV.any, LV.any, LV.any, LV.any, LV.any, LV.any, LV.any, LV.any, LV.any, LV.any, LV.any, LV.any, LV.any, LV.any, LV.any, LV.any, LV.any, LV.any, LV.any, LV.any, LV.any, LV.any, LV.any, LV.any, LV.any, LV.any, LV.any, LV.any, LV.any, LV.any, LV.any, LV.any, LV.any, LV.any, LV.any, LV.any, LV.any, LV.any, LV.any, LV.any, LV.any]
theorem fl_step (n fu : Nat) (rm at_ : Int) (l : List Act5) (hl : l.length ≤ 60) (h0 : 0 ≤ rm) (h1 : rm ≤ 255) (i : Int) (hi0 : 0 ≤ i) (hi : i < (l.length : Int)) (k a : Int) (b ks : List Int) (c : Int) (hx : (ops5 l)[i.toNat]? = some (.agg [.int .i64 k, .int .i64 a, .isl 1 (bys b), .isl 1 (ints ks), .int .i64 c]))
    (m m' : List (Int × List Int)) (p p' : List (Int × Option (List Int))) (L : List LV) (e : Bool) (u : Int) (hu : u ≤ rm)
    (D : ∀ j, lrun Tryd.prog C0 (lcall Tryd.prog C0 (j + 180)) (j + 180) 10 [.ptr 0 0, rNil rm, opA k a b ks c] ⟨1, [(0, dO rm m p)]⟩ = some (.tup [rE rm L, .bool e], ⟨1, [(0, dO rm m' p')]⟩))
    (U : ∀ j, lrun Tryd.prog C0 (lcall Tryd.prog C0 (j + 20)) (j + 20) 14 [.ptr 0 0] ⟨1, [(0, dO rm m' p')]⟩ = some (.int .i64 u, ⟨1, [(0, dO rm m' p')]⟩))
    (r : LX × LEnv × St) (hr : loopAt Tryd.prog C0 (n + 200) 5 0 0 fu (flE rm at_ l (i + 1)) ⟨1, [(0, dO rm m' p')]⟩ = some r) :
    loopAt Tryd.prog C0 (n + 200) 5 0 0 (fu + 1) (flE rm at_ l i) ⟨1, [(0, dO rm m p)]⟩ = some r := by
  have f1 : decide (i < (↑(List.length (ops5 l)) : Int)) = true := by (simp [-List.reduceReplicate]; omega)
  have f2 : LV.int IntKind.i64 (IntKind.wrap IntKind.i64 rm) = LV.int IntKind.i64 rm := by simp (disch := omega) [-List.reduceReplicate]
  have f3 : (ops5 l)[Int.toNat i]? = some (LV.agg [LV.int IntKind.i64 k, LV.int IntKind.i64 a, LV.isl 1 (bys b), LV.isl 1 (ints ks), LV.int IntKind.i64 c]) := hx
  have f4 : 0 ≤ i ∧ i < (↑(List.length (ops5 l)) : Int) := by (simp [-List.reduceReplicate]; omega)
  have f5 := D (n + 19)
  have f6 := U (n + 179)
  have f7 : decide (rm < u) = false := by (simp [-List.reduceReplicate]; omega)
  have f8 : LV.int IntKind.i64 (IntKind.wrap IntKind.i64 (i + 1)) = LV.int IntKind.i64 (i + 1) := by simp (disch := omega) [-List.reduceReplicate]
  have f9 := hr
  exact dloop_ok (fun h => And.intro (congrArg LV.bool f1) <| And.intro (f2) <| And.intro (f4) <| And.intro (f3) <| And.intro (f5) <| And.intro (f6) <| And.intro (f2) <| And.intro (congrArg LV.bool f7) <| And.intro (f8) <| And.intro (Eq.refl (tidyOf f9)) <| And.intro (f9) <| h) (.i (.s (.s (.a) (.b true (.a))) (.s (.k (.s (.r [.a, .a, .v (vOf f2) (.a), .a, .a, .a, .e (rOf f3), .a, .f (rOf f5)]) (.s (.r [.a, .f (rOf f6), .a, .v (vOf f2) (.a)]) (.b false (.a))))) (.r [.a, .v (vOf f8) (.a)]))) (.h [] (eOf f9) (stOf f9) (rOf f9))) (by kernel_rfl)
theorem fl_end (n fu : Nat) (rm at_ : Int) (l : List Act5) (hl : l.length ≤ 60) (m : List (Int × List Int)) (p : List (Int × Option (List Int))) :
    loopAt Tryd.prog C0 (n + 200) 5 0 0 (fu + 1) (flE rm at_ l l.length) ⟨1, [(0, dO rm m p)]⟩ = some (.exit 0, flX rm at_ l l.length, ⟨1, [(0, dO rm m p)]⟩) := by
  have f1 : decide ((↑(List.length l) : Int) < (↑(List.length (ops5 l)) : Int)) = false := by simp
  have f2 : (LX.exit 0, [LV.int IntKind.u8 rm, LV.isl 5 (ops5 l), LV.int IntKind.u16 at_, LV.any, LV.any, LV.any, LV.any, LV.ptr 0 0, LV.any, LV.int IntKind.i64 (↑(List.length l) : Int), LV.any, LV.any, LV.any, LV.any, LV.any, LV.any, LV.any, LV.any, LV.any, LV.any, LV.any, LV.any, LV.any, LV.any, LV.any, LV.any, LV.any, LV.any, LV.any, LV.any, LV.any, LV.any, LV.int IntKind.i64 (↑(List.length l) : Int), LV.isl 5 (ops5 l), LV.int IntKind.i64 (↑(List.length (ops5 l)) : Int), LV.bool (decide ((↑(List.length l) : Int) < (↑(List.length (ops5 l)) : Int))), LV.any, LV.any, LV.any, LV.any, LV.any, LV.any, LV.any, LV.any, LV.any, LV.any, LV.any, LV.any, LV.any, LV.any, LV.any, LV.any, LV.any, LV.any, LV.any, LV.any, LV.any, LV.any, LV.any, LV.any, LV.any, LV.any, LV.any, LV.any, LV.any, LV.any, LV.any, LV.any, LV.any, LV.any, LV.any, LV.any, LV.any, LV.any, LV.any, LV.any, LV.any, LV.any, LV.any, LV.any, LV.any, LV.any, LV.any, LV.any, LV.any, LV.any, LV.any, LV.any, LV.any, LV.any, LV.any, LV.any, LV.any, LV.any, LV.any, LV.any, LV.any, LV.any, LV.any, LV.any, LV.any, LV.any, LV.any, LV.any, LV.any, LV.any, LV.any, LV.any, LV.any, LV.any, LV.any, LV.any, LV.any, LV.any, LV.any, LV.any, LV.any, LV.any, LV.any, LV.any, LV.any, LV.any, LV.any, LV.any, LV.any, LV.any, LV.any, LV.any, LV.any, LV.any, LV.any, LV.any], St.mk 1 [(0, LObj.box 64 [LV.int IntKind.i64 rm, LV.omap IntKind.i64 (mapK m) (mapV m), LV.own 90 2 (pnds p)])]) = (LX.exit 0, flX rm at_ l (↑(List.length l) : Int), St.mk 1 [(0, dO rm m p)]) := by simp
  exact dloop_ok (fun h => And.intro (congrArg LV.bool f1) <| f2) (.i (.s (.s (.a) (.b false (.a))) .a) (.a)) (by kernel_rfl)
theorem full_heavy (n : Nat) (rm at_ : Int) (l : List Act5) (hl : lightB l = false) (hn : 400 ≤ n) (hw : lrun Tryd.prog C0 (lcall Tryd.prog C0 (n + 199)) (n + 199) 7 [] ⟨0, []⟩ = some (.bool true, ⟨0, []⟩)) :
    lrun Tryd.prog C0 (lcall Tryd.prog C0 (n + 200)) (n + 200) 5 [.int .u8 rm, .isl 5 (ops5 l), .int .u16 at_] ⟨0, []⟩ = some (.bool true, ⟨0, []⟩) := by
  have f1 := light_ok (n + 179) l (by omega)
  have f2 : (!lightB l) = true := by (simp [-List.reduceReplicate]; omega)
  have f3 := hw
  exact drun_ok (fun h => And.intro (f1) <| And.intro (congrArg LV.bool f2) <| And.intro (f3) <| h) (.s (.a) (.s (.s (.r [.a, .f (rOf f1)]) (.b true (.s (.r [.f (rOf f3)]) (.a)))) .a)) [] .a (by kernel_rfl)
abbrev glE (rm at_ : Int) (m : List (Int × List Int)) (i : Int) : LEnv := [LV.int IntKind.u8 rm, LV.any, LV.int IntKind.u16 at_, LV.any, LV.any, LV.any, LV.any, LV.ptr 0 0, LV.any, LV.any, LV.any, LV.any, LV.any, LV.isl 2 (cellsL m), LV.int IntKind.i64 i, LV.any, LV.any, LV.any, LV.any, LV.any, LV.any, LV.any, LV.any, LV.any, LV.any, LV.any, LV.any, LV.any, LV.any, LV.any, LV.any, LV.any, LV.any, LV.any, LV.any, LV.any, LV.any, LV.any, LV.any, LV.any, LV.any, LV.any, LV.any, LV.any, LV.any, LV.any, LV.any, LV.any, LV.any, LV.any, LV.any, LV.any, LV.any, LV.any, LV.any, LV.any, LV.any, LV.any, LV.any, LV.any, LV.any, LV.any, LV.any, LV.any, LV.any, LV.any, LV.any, LV.any, LV.any, LV.any, LV.any, LV.any, LV.any, LV.any, LV.any, LV.any, LV.any, LV.any, LV.any, LV.any, LV.any, LV.any, LV.any, LV.any, LV.any, LV.any, LV.any, LV.any, LV.any, LV.any, LV.any, LV.any, LV.any, LV.any, LV.any, LV.any, LV.any, LV.any, LV.any, LV.any, LV.any, LV.any, LV.any, LV.any, LV.any, LV.any, LV.any, LV.any, LV.any, LV.any, LV.any, LV.any, LV.any, LV.any, LV.any, LV.any, LV.any, LV.any, LV.any, LV.any, LV.any, LV.any, LV.any, LV.any, LV.any, LV.any, LV.any, LV.any, LV.any, LV.any, LV.any, LV.any]
abbrev glX (rm at_ : Int) (m : List (Int × List Int)) (i : Int) : LEnv := [LV.int IntKind.u8 rm, LV.any, LV.int IntKind.u16 at_, LV.any, LV.any, LV.any, LV.any, LV.ptr 0 0, LV.any, LV.any, LV.any, LV.any, LV.any, LV.isl 2 (cellsL m), LV.int IntKind.i64 i, LV.any, LV.any, LV.any, LV.any, LV.any, LV.any, LV.any, LV.any, LV.any, LV.any, LV.any, LV.any, LV.any, LV.any, LV.any, LV.any, LV.any, LV.any, LV.any, LV.any, LV.any, LV.any, LV.any, LV.any, LV.any, LV.any, LV.any, LV.any, LV.any, LV.any, LV.any, LV.any, LV.any, LV.any, LV.any, LV.any, LV.any, LV.any, LV.any, LV.any, LV.any, LV.any, LV.any, LV.any, LV.any, LV.any, LV.any, LV.any, LV.any, LV.any, LV.any, LV.any, LV.any, LV.any, LV.any, LV.any, LV.any, LV.any, LV.any, LV.any, LV.any, LV.any, LV.any, LV.any, LV.any, LV.any, LV.any, LV.any, LV.any, LV.any, LV.int IntKind.i64 i, LV.isl 2 (cellsL m), LV.int IntKind.i64 ((cellsL m).length : Int), LV.bool (decide (i < ((cellsL m).length : Int))), LV.any, LV.any, LV.any, LV.any, LV.any, LV.any, LV.any, LV.any, LV.any, LV.any, LV.any, LV.any, LV.any, LV.any, LV.any, LV.any, LV.any, LV.any, LV.any, LV.any, LV.any, LV.any, LV.any, LV.any, LV.any, LV.any, LV.any, LV.any, LV.any, LV.any, LV.any, LV.any, LV.any, LV.any, LV.any, LV.any, LV.any, LV.any, LV.any, LV.any, LV.any, LV.any, LV.any]
theorem gl_step (n fu : Nat) (rm at_ : Int) (c m : List (Int × List Int)) (hm : c.length ≤ 1000) (i : Int) (hi0 : 0 ≤ i) (hi : i < (c.length : Int)) (a : Int) (b : List Int) (hx : (cellsL c)[i.toNat]? = some (.agg [.int .i64 a, .isl 1 (bys b)]))
    (p p' : List (Int × Option (List Int)))
    (D : ∀ j, lrun Tryd.prog C0 (lcall Tryd.prog C0 (j + 20)) (j + 20) 23 [.ptr 0 0, .int .i64 a] ⟨1, [(0, dO rm m p)]⟩ = some (.nili, ⟨1, [(0, dO rm m p')]⟩))
    (r : LX × LEnv × St) (hr : loopAt Tryd.prog C0 (n + 200) 5 1 0 fu (glE rm at_ c (i + 1)) ⟨1, [(0, dO rm m p')]⟩ = some r) :
    loopAt Tryd.prog C0 (n + 200) 5 1 0 (fu + 1) (glE rm at_ c i) ⟨1, [(0, dO rm m p)]⟩ = some r := by
  have f1 : decide (i < (↑(List.length (cellsL c)) : Int)) = true := by (simp [-List.reduceReplicate]; omega)
  have f2 : (cellsL c)[Int.toNat i]? = some (LV.agg [LV.int IntKind.i64 a, LV.isl 1 (bys b)]) := hx
  have f3 : 0 ≤ i ∧ i < (↑(List.length (cellsL c)) : Int) := by (simp [-List.reduceReplicate]; omega)
  have f4 := D (n + 179)
  have f5 : LV.int IntKind.i64 (IntKind.wrap IntKind.i64 (i + 1)) = LV.int IntKind.i64 (i + 1) := by simp (disch := omega) [-List.reduceReplicate]
  have f6 := hr
  exact dloop_ok (fun h => And.intro (congrArg LV.bool f1) <| And.intro (f3) <| And.intro (f2) <| And.intro (f4) <| And.intro (f5) <| And.intro (Eq.refl (tidyOf f6)) <| And.intro (f6) <| h) (.i (.s (.s (.a) (.b true (.a))) (.s (.k (.r [.a, .a, .a, .e (rOf f2), .a, .a, .f (rOf f4)])) (.r [.a, .v (vOf f5) (.a)]))) (.h [] (eOf f6) (stOf f6) (rOf f6))) (by kernel_rfl)
theorem gl_end (n fu : Nat) (rm at_ : Int) (c m : List (Int × List Int)) (hm : c.length ≤ 1000) (p : List (Int × Option (List Int))) :
    loopAt Tryd.prog C0 (n + 200) 5 1 0 (fu + 1) (glE rm at_ c c.length) ⟨1, [(0, dO rm m p)]⟩ = some (.exit 2, glX rm at_ c c.length, ⟨1, [(0, dO rm m p)]⟩) := by
  have f1 : decide ((↑(List.length c) : Int) < (↑(List.length (cellsL c)) : Int)) = false := by simp
  exact dloop_ok (fun h => And.intro (congrArg LV.bool f1) <| h) (.i (.s (.s (.a) (.b false (.a))) .a) (.a)) (by kernel_rfl)
abbrev hlE (rm at_ : Int) (m : List (Int × List Int)) (i : Int) : LEnv := [LV.int IntKind.u8 rm, LV.any, LV.int IntKind.u16 at_, LV.any, LV.any, LV.any, LV.any, LV.ptr 0 0, LV.any, LV.any, LV.any, LV.any, LV.any, LV.isl 2 (cellsL m), LV.any, LV.int IntKind.i64 i, LV.any, LV.any, LV.any, LV.any, LV.any, LV.any, LV.any, LV.any, LV.any, LV.any, LV.any, LV.any, LV.any, LV.any, LV.any, LV.any, LV.any, LV.any, LV.any, LV.any, LV.any, LV.any, LV.any, LV.any, LV.any, LV.any, LV.any, LV.any, LV.any, LV.any, LV.any, LV.any, LV.any, LV.any, LV.any, LV.any, LV.any, LV.any, LV.any, LV.any, LV.any, LV.any, LV.any, LV.any, LV.any, LV.any, LV.any, LV.any, LV.any, LV.any, LV.any, LV.any, LV.any, LV.any, LV.any, LV.any, LV.any, LV.any, LV.any, LV.any, LV.any, LV.any, LV.any, LV.any, LV.any, LV.any, LV.any, LV.any, LV.any, LV.any, LV.any, LV.any, LV.any, LV.any, LV.any, LV.any, LV.any, LV.any, LV.any, LV.any, LV.any, LV.any, LV.any, LV.any, LV.any, LV.any, LV.any, LV.any, LV.any, LV.any, LV.any, LV.any, LV.any, LV.any, LV.any, LV.any, LV.any, LV.any, LV.any, LV.any, LV.any, LV.any, LV.any, LV.any, LV.any, LV.any, LV.any, LV.any, LV.any, LV.any, LV.any, LV.any, LV.any, LV.any, LV.any, LV.any]
abbrev hlX (rm at_ : Int) (m : List (Int × List Int)) (i : Int) : LEnv := [LV.int IntKind.u8 rm, LV.any, LV.int IntKind.u16 at_, LV.any, LV.any, LV.any, LV.any, LV.ptr 0 0, LV.any, LV.any, LV.any, LV.any, LV.any, LV.isl 2 (cellsL m), LV.any, LV.int IntKind.i64 i, LV.any, LV.any, LV.any, LV.any, LV.any, LV.any, LV.any, LV.any, LV.any, LV.any, LV.any, LV.any, LV.any, LV.any, LV.any, LV.any, LV.any, LV.any, LV.any, LV.any, LV.any, LV.any, LV.any, LV.any, LV.any, LV.any, LV.any, LV.any, LV.any, LV.any, LV.any, LV.any, LV.any, LV.any, LV.any, LV.any, LV.any, LV.any, LV.any, LV.any, LV.any, LV.any, LV.any, LV.any, LV.any, LV.any, LV.any, LV.any, LV.any, LV.any, LV.any, LV.any, LV.any, LV.any, LV.any, LV.any, LV.any, LV.any, LV.any, LV.any, LV.any, LV.any, LV.any, LV.any, LV.any, LV.any, LV.any, LV.any, LV.any, LV.any, LV.any, LV.any, LV.any, LV.any, LV.any, LV.any, LV.any, LV.any, LV.any, LV.any, LV.any, LV.any, LV.any, LV.any, LV.int IntKind.i64 i, LV.isl 2 (cellsL m), LV.int IntKind.i64 ((cellsL m).length : Int), LV.bool (decide (i < ((cellsL m).length : Int))), LV.any, LV.any, LV.any, LV.any, LV.any, LV.any, LV.any, LV.any, LV.any, LV.any, LV.any, LV.any, LV.any, LV.any, LV.any, LV.any, LV.any, LV.any, LV.any, LV.any, LV.any, LV.any, LV.any, LV.any, LV.any, LV.any, LV.any, LV.any]
theorem hl_step (n fu : Nat) (rm at_ : Int) (c m : List (Int × List Int)) (hm : c.length ≤ 1000) (i : Int) (hi0 : 0 ≤ i) (hi : i < (c.length : Int)) (a : Int) (b : List Int) (hx : (cellsL c)[i.toNat]? = some (.agg [.int .i64 a, .isl 1 (bys b)]))
    (p p' : List (Int × Option (List Int)))
    (D : ∀ j, lrun Tryd.prog C0 (lcall Tryd.prog C0 (j + 20)) (j + 20) 23 [.ptr 0 0, .int .i64 a] ⟨1, [(0, dO rm m p)]⟩ = some (.nili, ⟨1, [(0, dO rm m p')]⟩))
    (r : LX × LEnv × St) (hr : loopAt Tryd.prog C0 (n + 200) 5 2 0 fu (hlE rm at_ c (i + 1)) ⟨1, [(0, dO rm m p')]⟩ = some r) :
    loopAt Tryd.prog C0 (n + 200) 5 2 0 (fu + 1) (hlE rm at_ c i) ⟨1, [(0, dO rm m p)]⟩ = some r := by
  have f1 : decide (i < (↑(List.length (cellsL c)) : Int)) = true := by (simp [-List.reduceReplicate]; omega)
  have f2 : (cellsL c)[Int.toNat i]? = some (LV.agg [LV.int IntKind.i64 a, LV.isl 1 (bys b)]) := hx
  have f3 : 0 ≤ i ∧ i < (↑(List.length (cellsL c)) : Int) := by (simp [-List.reduceReplicate]; omega)
  have f4 := D (n + 179)
  have f5 : LV.int IntKind.i64 (IntKind.wrap IntKind.i64 (i + 1)) = LV.int IntKind.i64 (i + 1) := by simp (disch := omega) [-List.reduceReplicate]
  have f6 := hr
  exact dloop_ok (fun h => And.intro (congrArg LV.bool f1) <| And.intro (f3) <| And.intro (f2) <| And.intro (f4) <| And.intro (f5) <| And.intro (Eq.refl (tidyOf f6)) <| And.intro (f6) <| h) (.i (.s (.s (.a) (.b true (.a))) (.s (.k (.r [.a, .a, .a, .e (rOf f2), .a, .a, .f (rOf f4)])) (.r [.a, .v (vOf f5) (.a)]))) (.h [] (eOf f6) (stOf f6) (rOf f6))) (by kernel_rfl)
theorem hl_end (n fu : Nat) (rm at_ : Int) (c m : List (Int × List Int)) (hm : c.length ≤ 1000) (p : List (Int × Option (List Int))) :
    loopAt Tryd.prog C0 (n + 200) 5 2 0 (fu + 1) (hlE rm at_ c c.length) ⟨1, [(0, dO rm m p)]⟩ = some (.exit 4, hlX rm at_ c c.length, ⟨1, [(0, dO rm m p)]⟩) := by
  have f1 : decide ((↑(List.length c) : Int) < (↑(List.length (cellsL c)) : Int)) = false := by simp
  exact dloop_ok (fun h => And.intro (congrArg LV.bool f1) <| h) (.i (.s (.s (.a) (.b false (.a))) .a) (.a)) (by kernel_rfl)
theorem full_thruA0 (n : Nat) (rm at_ : Int) (l : List Act5) (hl : lightB l = true) (hl2 : l.length ≤ 60) (h0 : 0 ≤ rm) (h1 : rm ≤ 255) (ha : 0 ≤ at_) (ha2 : at_ ≤ 65535) (hn : 400 ≤ n)
    (m : List (Int × List Int)) (hm : m.length ≤ 1000) (p p1 p2 p3 : List (Int × Option (List Int))) (u : Int)
    (F : loopAt Tryd.prog C0 (n + 200) 5 0 0 (n + 200) (flE rm at_ l 0) ⟨1, [(0, dO rm [] [])]⟩ = some (.exit 0, flX rm at_ l l.length, ⟨1, [(0, dO rm m p)]⟩))
    (U : ∀ j, lrun Tryd.prog C0 (lcall Tryd.prog C0 (j + 20)) (j + 20) 14 [.ptr 0 0] ⟨1, [(0, dO rm m p)]⟩ = some (.int .i64 u, ⟨1, [(0, dO rm m p)]⟩))
    (W : ∀ j, lrun Tryd.prog C0 (lcall Tryd.prog C0 (j + 20)) (j + 20) 19 [.ptr 0 0, .int .i64 at_, .nils] ⟨1, [(0, dO rm m p)]⟩ = some (.nili, ⟨1, [(0, dO rm m p1)]⟩))
    (C : ∀ j, 590 ≤ j + 60 → lrun Tryd.prog C0 (lcall Tryd.prog C0 (j + 60)) (j + 60) 12 [.ptr 0 0] ⟨1, [(0, dO rm m p1)]⟩ = some (.isl 2 (cellsL m), ⟨1, [(0, dO rm m p1)]⟩))
    (G : loopAt Tryd.prog C0 (n + 200) 5 1 0 (n + 200) (glE rm at_ m 0) ⟨1, [(0, dO rm m p1)]⟩ = some (.exit 2, glX rm at_ m m.length, ⟨1, [(0, dO rm m p2)]⟩))
    (K : ∀ j, 590 ≤ j + 60 → lrun Tryd.prog C0 (lcall Tryd.prog C0 (j + 60)) (j + 60) 20 [.ptr 0 0, .nils, .int .i64 0] ⟨1, [(0, dO rm m p2)]⟩ = some (.tup [], ⟨1, [(0, dO rm m [])]⟩))
    (H : loopAt Tryd.prog C0 (n + 200) 5 2 0 (n + 200) (hlE rm at_ m 0) ⟨1, [(0, dO rm m [])]⟩ = some (.exit 4, hlX rm at_ m m.length, ⟨1, [(0, dO rm m p3)]⟩))
    (Y : ∀ j, 590 ≤ j + 190 → lrun Tryd.prog C0 (lcall Tryd.prog C0 (j + 190)) (j + 190) 17 [.ptr 0 0] ⟨1, [(0, dO rm m p3)]⟩ = some (.tup [], ⟨1, [(0, dO rm [] [])]⟩))
    (U0 : ∀ j, lrun Tryd.prog C0 (lcall Tryd.prog C0 (j + 20)) (j + 20) 14 [.ptr 0 0] ⟨1, [(0, dO rm [] [])]⟩ = some (.int .i64 0, ⟨1, [(0, dO rm [] [])]⟩))
    (hr : rm < 1)
    (hw : lrun Tryd.prog C0 (lcall Tryd.prog C0 (n + 199)) (n + 199) 7 [] ⟨0, []⟩ = some (.bool true, ⟨0, []⟩)) :
    lrun Tryd.prog C0 (lcall Tryd.prog C0 (n + 200)) (n + 200) 5 [.int .u8 rm, .isl 5 (ops5 l), .int .u16 at_] ⟨0, []⟩ = some (.bool true, ⟨0, []⟩) := by
  have f1 := light_ok (n + 179) l (by omega)
  have f2 : (!lightB l) = false := by (simp [-List.reduceReplicate]; omega)
  have f3 : LV.int IntKind.i64 (IntKind.wrap IntKind.i64 rm) = LV.int IntKind.i64 rm := by simp (disch := omega) [-List.reduceReplicate]
  have f4 := new_ok (n + 189) rm h0 (by omega)
  have f5 := F
  have f6 := U (n + 179)
  have f7 := loose_ok (n + 189) rm m p
  have f8 : LV.int IntKind.i64 (IntKind.wrap IntKind.i64 at_) = LV.int IntKind.i64 at_ := by simp (disch := omega) [-List.reduceReplicate]
  have f9 := W (n + 179)
  have f10 := C (n + 139) (by omega)
  have f11 := G
  have f12 := K (n + 139) (by omega)
  have f13 := H
  have f14 := Y (n + 9) (by omega)
  have f15 := U0 (n + 179)
  have f16 : decide (rm = 0) = true := by (simp [-List.reduceReplicate]; omega)
  have f17 : lpick (decide (rm = 0)) (LV.bool true) LV.any = some (LV.bool true) := by (simp [-List.reduceReplicate]; omega)
  have f18 := hw
  exact drun_ok (fun h => And.intro (f1) <| And.intro (congrArg LV.bool f2) <| And.intro (f3) <| And.intro (f4) <| And.intro (Eq.refl (tidyOf f5)) <| And.intro (f5) <| And.intro (f6) <| And.intro (f7) <| And.intro (f8) <| And.intro (f9) <| And.intro (f10) <| And.intro (Eq.refl (tidyOf f11)) <| And.intro (f11) <| And.intro (f12) <| And.intro (Eq.refl (tidyOf f13)) <| And.intro (f13) <| And.intro (f14) <| And.intro (f15) <| And.intro (congrArg some f16) <| And.intro (congrArg some f16) <| And.intro (congrArg some f16) <| And.intro (congrArg some f16) <| And.intro (congrArg some f16) <| And.intro (x_map (st := (St.mk 1 [(0, LObj.box 64 [LV.int IntKind.i64 rm, LV.omap IntKind.i64 [] [], LV.own 90 2 []])])) f17) <| And.intro (f18) <| h) (.s (.a) (.s (.s (.r [.a, .f (rOf f1)]) (.b false (.a))) (.s (.r [.a, .v (vOf f3) (.a), .f (rOf f4)]) (.s (.a) (.s (.s (.a) (.k (.l (.h [] (eOf f5) (stOf f5) (rOf f5))))) (.s (.r [.a, .f (rOf f6), .a, .f (rOf f7)]) (.s (.s (.r [.a, .a, .v (vOf f8) (.a), .f (rOf f9)]) (.a)) (.s (.r [.a, .f (rOf f10)]) (.s (.s (.a) (.k (.l (.h [] (eOf f11) (stOf f11) (rOf f11))))) (.s (.r [.a, .f (rOf f12)]) (.s (.s (.a) (.k (.l (.h [] (eOf f13) (stOf f13) (rOf f13))))) (.s (.r [.a, .f (rOf f14)]) (.s (.r [.a, .f (rOf f15), .a, .a, .a, .a, .a, .g true (.a), .g true (.a), .g true (.a), .g true (.a), .g true (.a), .t (rOf (x_map (st := (St.mk 1 [(0, LObj.box 64 [LV.int IntKind.i64 rm, LV.omap IntKind.i64 [] [], LV.own 90 2 []])])) f17)), .a, .a, .f (rOf f18)]) (.a)))))))))))))) [] .a (by kernel_rfl)
theorem full_thruA1 (n : Nat) (rm at_ : Int) (l : List Act5) (hl : lightB l = true) (hl2 : l.length ≤ 60) (h0 : 0 ≤ rm) (h1 : rm ≤ 255) (ha : 0 ≤ at_) (ha2 : at_ ≤ 65535) (hn : 400 ≤ n)
    (m : List (Int × List Int)) (hm : m.length ≤ 1000) (p p1 p2 p3 : List (Int × Option (List Int))) (u : Int)
    (F : loopAt Tryd.prog C0 (n + 200) 5 0 0 (n + 200) (flE rm at_ l 0) ⟨1, [(0, dO rm [] [])]⟩ = some (.exit 0, flX rm at_ l l.length, ⟨1, [(0, dO rm m p)]⟩))
    (U : ∀ j, lrun Tryd.prog C0 (lcall Tryd.prog C0 (j + 20)) (j + 20) 14 [.ptr 0 0] ⟨1, [(0, dO rm m p)]⟩ = some (.int .i64 u, ⟨1, [(0, dO rm m p)]⟩))
    (W : ∀ j, lrun Tryd.prog C0 (lcall Tryd.prog C0 (j + 20)) (j + 20) 19 [.ptr 0 0, .int .i64 at_, .nils] ⟨1, [(0, dO rm m p)]⟩ = some (.nili, ⟨1, [(0, dO rm m p1)]⟩))
    (C : ∀ j, 590 ≤ j + 60 → lrun Tryd.prog C0 (lcall Tryd.prog C0 (j + 60)) (j + 60) 12 [.ptr 0 0] ⟨1, [(0, dO rm m p1)]⟩ = some (.isl 2 (cellsL m), ⟨1, [(0, dO rm m p1)]⟩))
    (G : loopAt Tryd.prog C0 (n + 200) 5 1 0 (n + 200) (glE rm at_ m 0) ⟨1, [(0, dO rm m p1)]⟩ = some (.exit 2, glX rm at_ m m.length, ⟨1, [(0, dO rm m p2)]⟩))
    (K : ∀ j, 590 ≤ j + 60 → lrun Tryd.prog C0 (lcall Tryd.prog C0 (j + 60)) (j + 60) 20 [.ptr 0 0, .nils, .int .i64 0] ⟨1, [(0, dO rm m p2)]⟩ = some (.tup [], ⟨1, [(0, dO rm m [])]⟩))
    (H : loopAt Tryd.prog C0 (n + 200) 5 2 0 (n + 200) (hlE rm at_ m 0) ⟨1, [(0, dO rm m [])]⟩ = some (.exit 4, hlX rm at_ m m.length, ⟨1, [(0, dO rm m p3)]⟩))
    (Y : ∀ j, 590 ≤ j + 190 → lrun Tryd.prog C0 (lcall Tryd.prog C0 (j + 190)) (j + 190) 17 [.ptr 0 0] ⟨1, [(0, dO rm m p3)]⟩ = some (.tup [], ⟨1, [(0, dO rm [] [])]⟩))
    (U0 : ∀ j, lrun Tryd.prog C0 (lcall Tryd.prog C0 (j + 20)) (j + 20) 14 [.ptr 0 0] ⟨1, [(0, dO rm [] [])]⟩ = some (.int .i64 0, ⟨1, [(0, dO rm [] [])]⟩))
    (hr : 0 < rm) (W0 : ∀ j, lrun Tryd.prog C0 (lcall Tryd.prog C0 (j + 20)) (j + 20) 19 [.ptr 0 0, .int .i64 at_, .nils] ⟨1, [(0, dO rm [] [])]⟩ = some (.nili, ⟨1, [(0, dO rm [] [(at_, some (List.replicate 64 0))])]⟩))
    (hw : lrun Tryd.prog C0 (lcall Tryd.prog C0 (n + 199)) (n + 199) 7 [] ⟨0, []⟩ = some (.bool true, ⟨0, []⟩)) :
    lrun Tryd.prog C0 (lcall Tryd.prog C0 (n + 200)) (n + 200) 5 [.int .u8 rm, .isl 5 (ops5 l), .int .u16 at_] ⟨0, []⟩ = some (.bool true, ⟨0, []⟩) := by
  have f1 := light_ok (n + 179) l (by omega)
  have f2 : (!lightB l) = false := by (simp [-List.reduceReplicate]; omega)
  have f3 : LV.int IntKind.i64 (IntKind.wrap IntKind.i64 rm) = LV.int IntKind.i64 rm := by simp (disch := omega) [-List.reduceReplicate]
  have f4 := new_ok (n + 189) rm h0 (by omega)
  have f5 := F
  have f6 := U (n + 179)
  have f7 := loose_ok (n + 189) rm m p
  have f8 : LV.int IntKind.i64 (IntKind.wrap IntKind.i64 at_) = LV.int IntKind.i64 at_ := by simp (disch := omega) [-List.reduceReplicate]
  have f9 := W (n + 179)
  have f10 := C (n + 139) (by omega)
  have f11 := G
  have f12 := K (n + 139) (by omega)
  have f13 := H
  have f14 := Y (n + 9) (by omega)
  have f15 := U0 (n + 179)
  have f16 : decide (rm = 0) = false := by (simp [-List.reduceReplicate]; omega)
  have f17 := W0 (n + 179)
  have f18 : LV.bool (if decide (rm = 0) = true then true else true) = LV.bool true := by simp
  have f19 := hw
  exact drun_ok (fun h => And.intro (f1) <| And.intro (congrArg LV.bool f2) <| And.intro (f3) <| And.intro (f4) <| And.intro (Eq.refl (tidyOf f5)) <| And.intro (f5) <| And.intro (f6) <| And.intro (f7) <| And.intro (f8) <| And.intro (f9) <| And.intro (f10) <| And.intro (Eq.refl (tidyOf f11)) <| And.intro (f11) <| And.intro (f12) <| And.intro (Eq.refl (tidyOf f13)) <| And.intro (f13) <| And.intro (f14) <| And.intro (f15) <| And.intro (congrArg some f16) <| And.intro (congrArg some f16) <| And.intro (congrArg some f16) <| And.intro (f8) <| And.intro (congrArg some f16) <| And.intro (f17) <| And.intro (congrArg some f16) <| And.intro (f18) <| And.intro (f19) <| h) (.s (.a) (.s (.s (.r [.a, .f (rOf f1)]) (.b false (.a))) (.s (.r [.a, .v (vOf f3) (.a), .f (rOf f4)]) (.s (.a) (.s (.s (.a) (.k (.l (.h [] (eOf f5) (stOf f5) (rOf f5))))) (.s (.r [.a, .f (rOf f6), .a, .f (rOf f7)]) (.s (.s (.r [.a, .a, .v (vOf f8) (.a), .f (rOf f9)]) (.a)) (.s (.r [.a, .f (rOf f10)]) (.s (.s (.a) (.k (.l (.h [] (eOf f11) (stOf f11) (rOf f11))))) (.s (.r [.a, .f (rOf f12)]) (.s (.s (.a) (.k (.l (.h [] (eOf f13) (stOf f13) (rOf f13))))) (.s (.r [.a, .f (rOf f14)]) (.s (.r [.a, .f (rOf f15), .a, .a, .a, .a, .a, .g false (.a), .g false (.a), .g false (.v (vOf f8) (.a)), .g false (.f (rOf f17)), .g false (.a), .v (vOf f18) (.a), .a, .a, .f (rOf f19)]) (.a)))))))))))))) [] .a (by kernel_rfl)
theorem full_thruB0 (n : Nat) (rm at_ : Int) (l : List Act5) (hl : lightB l = true) (hl2 : l.length ≤ 60) (h0 : 0 ≤ rm) (h1 : rm ≤ 255) (ha : 0 ≤ at_) (ha2 : at_ ≤ 65535) (hn : 400 ≤ n)
    (m : List (Int × List Int)) (hm : m.length ≤ 1000) (p p2 p3 : List (Int × Option (List Int))) (u : Int)
    (F : loopAt Tryd.prog C0 (n + 200) 5 0 0 (n + 200) (flE rm at_ l 0) ⟨1, [(0, dO rm [] [])]⟩ = some (.exit 0, flX rm at_ l l.length, ⟨1, [(0, dO rm m p)]⟩))
    (U : ∀ j, lrun Tryd.prog C0 (lcall Tryd.prog C0 (j + 20)) (j + 20) 14 [.ptr 0 0] ⟨1, [(0, dO rm m p)]⟩ = some (.int .i64 u, ⟨1, [(0, dO rm m p)]⟩))
    (W : ∀ j, lrun Tryd.prog C0 (lcall Tryd.prog C0 (j + 20)) (j + 20) 19 [.ptr 0 0, .int .i64 at_, .nils] ⟨1, [(0, dO rm m p)]⟩ = some (flt [98,108,111,99,107] at_ 7, ⟨1, [(0, dO rm m p)]⟩)) (hu : rm ≤ u)
    (C : ∀ j, 590 ≤ j + 60 → lrun Tryd.prog C0 (lcall Tryd.prog C0 (j + 60)) (j + 60) 12 [.ptr 0 0] ⟨1, [(0, dO rm m p)]⟩ = some (.isl 2 (cellsL m), ⟨1, [(0, dO rm m p)]⟩))
    (G : loopAt Tryd.prog C0 (n + 200) 5 1 0 (n + 200) (glE rm at_ m 0) ⟨1, [(0, dO rm m p)]⟩ = some (.exit 2, glX rm at_ m m.length, ⟨1, [(0, dO rm m p2)]⟩))
    (K : ∀ j, 590 ≤ j + 60 → lrun Tryd.prog C0 (lcall Tryd.prog C0 (j + 60)) (j + 60) 20 [.ptr 0 0, .nils, .int .i64 0] ⟨1, [(0, dO rm m p2)]⟩ = some (.tup [], ⟨1, [(0, dO rm m [])]⟩))
    (H : loopAt Tryd.prog C0 (n + 200) 5 2 0 (n + 200) (hlE rm at_ m 0) ⟨1, [(0, dO rm m [])]⟩ = some (.exit 4, hlX rm at_ m m.length, ⟨1, [(0, dO rm m p3)]⟩))
    (Y : ∀ j, 590 ≤ j + 190 → lrun Tryd.prog C0 (lcall Tryd.prog C0 (j + 190)) (j + 190) 17 [.ptr 0 0] ⟨1, [(0, dO rm m p3)]⟩ = some (.tup [], ⟨1, [(0, dO rm [] [])]⟩))
    (U0 : ∀ j, lrun Tryd.prog C0 (lcall Tryd.prog C0 (j + 20)) (j + 20) 14 [.ptr 0 0] ⟨1, [(0, dO rm [] [])]⟩ = some (.int .i64 0, ⟨1, [(0, dO rm [] [])]⟩))
    (hr : rm < 1)
    (hw : lrun Tryd.prog C0 (lcall Tryd.prog C0 (n + 199)) (n + 199) 7 [] ⟨0, []⟩ = some (.bool true, ⟨0, []⟩)) :
    lrun Tryd.prog C0 (lcall Tryd.prog C0 (n + 200)) (n + 200) 5 [.int .u8 rm, .isl 5 (ops5 l), .int .u16 at_] ⟨0, []⟩ = some (.bool true, ⟨0, []⟩) := by
  have f1 := light_ok (n + 179) l (by omega)
  have f2 : (!lightB l) = false := by (simp [-List.reduceReplicate]; omega)
  have f3 : LV.int IntKind.i64 (IntKind.wrap IntKind.i64 rm) = LV.int IntKind.i64 rm := by simp (disch := omega) [-List.reduceReplicate]
  have f4 := new_ok (n + 189) rm h0 (by omega)
  have f5 := F
  have f6 := U (n + 179)
  have f7 := loose_ok (n + 189) rm m p
  have f8 : LV.int IntKind.i64 (IntKind.wrap IntKind.i64 at_) = LV.int IntKind.i64 at_ := by simp (disch := omega) [-List.reduceReplicate]
  have f9 := W (n + 179)
  have f10 := U (n + 179)
  have f11 : LV.bool (if false = true then true else !decide (u = u)) = LV.bool false := by simp
  have f12 := loose_ok (n + 189) rm m p
  have f13 : LV.bool (if false = true then true else !decide ((↑(List.length p) : Int) = (↑(List.length p) : Int))) = LV.bool false := by simp
  have f14 : LV.bool (if false = true then true else decide (u < rm)) = LV.bool false := by (simp [-List.reduceReplicate]; omega)
  have f15 := C (n + 139) (by omega)
  have f16 := G
  have f17 := K (n + 139) (by omega)
  have f18 := H
  have f19 := Y (n + 9) (by omega)
  have f20 := U0 (n + 179)
  have f21 : decide (rm = 0) = true := by (simp [-List.reduceReplicate]; omega)
  have f22 : lpick (decide (rm = 0)) (LV.bool true) LV.any = some (LV.bool true) := by (simp [-List.reduceReplicate]; omega)
  have f23 := hw
  exact drun_ok (fun h => And.intro (f1) <| And.intro (congrArg LV.bool f2) <| And.intro (f3) <| And.intro (f4) <| And.intro (Eq.refl (tidyOf f5)) <| And.intro (f5) <| And.intro (f6) <| And.intro (f7) <| And.intro (f8) <| And.intro (f9) <| And.intro (f10) <| And.intro (f11) <| And.intro (f12) <| And.intro (f13) <| And.intro (f3) <| And.intro (f14) <| And.intro (f15) <| And.intro (Eq.refl (tidyOf f16)) <| And.intro (f16) <| And.intro (f17) <| And.intro (Eq.refl (tidyOf f18)) <| And.intro (f18) <| And.intro (f19) <| And.intro (f20) <| And.intro (congrArg some f21) <| And.intro (congrArg some f21) <| And.intro (congrArg some f21) <| And.intro (congrArg some f21) <| And.intro (congrArg some f21) <| And.intro (x_map (st := (St.mk 1 [(0, LObj.box 64 [LV.int IntKind.i64 rm, LV.omap IntKind.i64 [] [], LV.own 90 2 []])])) f22) <| And.intro (f23) <| h) (.s (.a) (.s (.s (.r [.a, .f (rOf f1)]) (.b false (.a))) (.s (.r [.a, .v (vOf f3) (.a), .f (rOf f4)]) (.s (.a) (.s (.s (.a) (.k (.l (.h [] (eOf f5) (stOf f5) (rOf f5))))) (.s (.r [.a, .f (rOf f6), .a, .f (rOf f7)]) (.s (.s (.r [.a, .a, .v (vOf f8) (.a), .f (rOf f9)]) (.s (.a) (.c (.s (.r [.a, .a, .a, .a, .a, .f (rOf f10), .a, .a, .v (vOf f11) (.a), .a, .a, .f (rOf f12), .a, .a, .v (vOf f13) (.a), .a, .a, .a, .v (vOf f3) (.a), .a, .v (vOf f14) (.a)]) (.a))))) (.s (.r [.a, .f (rOf f15)]) (.s (.s (.a) (.k (.l (.h [] (eOf f16) (stOf f16) (rOf f16))))) (.s (.r [.a, .f (rOf f17)]) (.s (.s (.a) (.k (.l (.h [] (eOf f18) (stOf f18) (rOf f18))))) (.s (.r [.a, .f (rOf f19)]) (.s (.r [.a, .f (rOf f20), .a, .a, .a, .a, .a, .g true (.a), .g true (.a), .g true (.a), .g true (.a), .g true (.a), .t (rOf (x_map (st := (St.mk 1 [(0, LObj.box 64 [LV.int IntKind.i64 rm, LV.omap IntKind.i64 [] [], LV.own 90 2 []])])) f22)), .a, .a, .f (rOf f23)]) (.a)))))))))))))) [] .a (by kernel_rfl)
theorem full_thruB1 (n : Nat) (rm at_ : Int) (l : List Act5) (hl : lightB l = true) (hl2 : l.length ≤ 60) (h0 : 0 ≤ rm) (h1 : rm ≤ 255) (ha : 0 ≤ at_) (ha2 : at_ ≤ 65535) (hn : 400 ≤ n)
    (m : List (Int × List Int)) (hm : m.length ≤ 1000) (p p2 p3 : List (Int × Option (List Int))) (u : Int)
    (F : loopAt Tryd.prog C0 (n + 200) 5 0 0 (n + 200) (flE rm at_ l 0) ⟨1, [(0, dO rm [] [])]⟩ = some (.exit 0, flX rm at_ l l.length, ⟨1, [(0, dO rm m p)]⟩))
    (U : ∀ j, lrun Tryd.prog C0 (lcall Tryd.prog C0 (j + 20)) (j + 20) 14 [.ptr 0 0] ⟨1, [(0, dO rm m p)]⟩ = some (.int .i64 u, ⟨1, [(0, dO rm m p)]⟩))
    (W : ∀ j, lrun Tryd.prog C0 (lcall Tryd.prog C0 (j + 20)) (j + 20) 19 [.ptr 0 0, .int .i64 at_, .nils] ⟨1, [(0, dO rm m p)]⟩ = some (flt [98,108,111,99,107] at_ 7, ⟨1, [(0, dO rm m p)]⟩)) (hu : rm ≤ u)
    (C : ∀ j, 590 ≤ j + 60 → lrun Tryd.prog C0 (lcall Tryd.prog C0 (j + 60)) (j + 60) 12 [.ptr 0 0] ⟨1, [(0, dO rm m p)]⟩ = some (.isl 2 (cellsL m), ⟨1, [(0, dO rm m p)]⟩))
    (G : loopAt Tryd.prog C0 (n + 200) 5 1 0 (n + 200) (glE rm at_ m 0) ⟨1, [(0, dO rm m p)]⟩ = some (.exit 2, glX rm at_ m m.length, ⟨1, [(0, dO rm m p2)]⟩))
    (K : ∀ j, 590 ≤ j + 60 → lrun Tryd.prog C0 (lcall Tryd.prog C0 (j + 60)) (j + 60) 20 [.ptr 0 0, .nils, .int .i64 0] ⟨1, [(0, dO rm m p2)]⟩ = some (.tup [], ⟨1, [(0, dO rm m [])]⟩))
    (H : loopAt Tryd.prog C0 (n + 200) 5 2 0 (n + 200) (hlE rm at_ m 0) ⟨1, [(0, dO rm m [])]⟩ = some (.exit 4, hlX rm at_ m m.length, ⟨1, [(0, dO rm m p3)]⟩))
    (Y : ∀ j, 590 ≤ j + 190 → lrun Tryd.prog C0 (lcall Tryd.prog C0 (j + 190)) (j + 190) 17 [.ptr 0 0] ⟨1, [(0, dO rm m p3)]⟩ = some (.tup [], ⟨1, [(0, dO rm [] [])]⟩))
    (U0 : ∀ j, lrun Tryd.prog C0 (lcall Tryd.prog C0 (j + 20)) (j + 20) 14 [.ptr 0 0] ⟨1, [(0, dO rm [] [])]⟩ = some (.int .i64 0, ⟨1, [(0, dO rm [] [])]⟩))
    (hr : 0 < rm) (W0 : ∀ j, lrun Tryd.prog C0 (lcall Tryd.prog C0 (j + 20)) (j + 20) 19 [.ptr 0 0, .int .i64 at_, .nils] ⟨1, [(0, dO rm [] [])]⟩ = some (.nili, ⟨1, [(0, dO rm [] [(at_, some (List.replicate 64 0))])]⟩))
    (hw : lrun Tryd.prog C0 (lcall Tryd.prog C0 (n + 199)) (n + 199) 7 [] ⟨0, []⟩ = some (.bool true, ⟨0, []⟩)) :
    lrun Tryd.prog C0 (lcall Tryd.prog C0 (n + 200)) (n + 200) 5 [.int .u8 rm, .isl 5 (ops5 l), .int .u16 at_] ⟨0, []⟩ = some (.bool true, ⟨0, []⟩) := by
  have f1 := light_ok (n + 179) l (by omega)
  have f2 : (!lightB l) = false := by (simp [-List.reduceReplicate]; omega)
  have f3 : LV.int IntKind.i64 (IntKind.wrap IntKind.i64 rm) = LV.int IntKind.i64 rm := by simp (disch := omega) [-List.reduceReplicate]
  have f4 := new_ok (n + 189) rm h0 (by omega)
  have f5 := F
  have f6 := U (n + 179)
  have f7 := loose_ok (n + 189) rm m p
  have f8 : LV.int IntKind.i64 (IntKind.wrap IntKind.i64 at_) = LV.int IntKind.i64 at_ := by simp (disch := omega) [-List.reduceReplicate]
  have f9 := W (n + 179)
  have f10 := U (n + 179)
  have f11 : LV.bool (if false = true then true else !decide (u = u)) = LV.bool false := by simp
  have f12 := loose_ok (n + 189) rm m p
  have f13 : LV.bool (if false = true then true else !decide ((↑(List.length p) : Int) = (↑(List.length p) : Int))) = LV.bool false := by simp
  have f14 : LV.bool (if false = true then true else decide (u < rm)) = LV.bool false := by (simp [-List.reduceReplicate]; omega)
  have f15 := C (n + 139) (by omega)
  have f16 := G
  have f17 := K (n + 139) (by omega)
  have f18 := H
  have f19 := Y (n + 9) (by omega)
  have f20 := U0 (n + 179)
  have f21 : decide (rm = 0) = false := by (simp [-List.reduceReplicate]; omega)
  have f22 := W0 (n + 179)
  have f23 : LV.bool (if decide (rm = 0) = true then true else true) = LV.bool true := by simp
  have f24 := hw
  exact drun_ok (fun h => And.intro (f1) <| And.intro (congrArg LV.bool f2) <| And.intro (f3) <| And.intro (f4) <| And.intro (Eq.refl (tidyOf f5)) <| And.intro (f5) <| And.intro (f6) <| And.intro (f7) <| And.intro (f8) <| And.intro (f9) <| And.intro (f10) <| And.intro (f11) <| And.intro (f12) <| And.intro (f13) <| And.intro (f3) <| And.intro (f14) <| And.intro (f15) <| And.intro (Eq.refl (tidyOf f16)) <| And.intro (f16) <| And.intro (f17) <| And.intro (Eq.refl (tidyOf f18)) <| And.intro (f18) <| And.intro (f19) <| And.intro (f20) <| And.intro (congrArg some f21) <| And.intro (congrArg some f21) <| And.intro (congrArg some f21) <| And.intro (f8) <| And.intro (congrArg some f21) <| And.intro (f22) <| And.intro (congrArg some f21) <| And.intro (f23) <| And.intro (f24) <| h) (.s (.a) (.s (.s (.r [.a, .f (rOf f1)]) (.b false (.a))) (.s (.r [.a, .v (vOf f3) (.a), .f (rOf f4)]) (.s (.a) (.s (.s (.a) (.k (.l (.h [] (eOf f5) (stOf f5) (rOf f5))))) (.s (.r [.a, .f (rOf f6), .a, .f (rOf f7)]) (.s (.s (.r [.a, .a, .v (vOf f8) (.a), .f (rOf f9)]) (.s (.a) (.c (.s (.r [.a, .a, .a, .a, .a, .f (rOf f10), .a, .a, .v (vOf f11) (.a), .a, .a, .f (rOf f12), .a, .a, .v (vOf f13) (.a), .a, .a, .a, .v (vOf f3) (.a), .a, .v (vOf f14) (.a)]) (.a))))) (.s (.r [.a, .f (rOf f15)]) (.s (.s (.a) (.k (.l (.h [] (eOf f16) (stOf f16) (rOf f16))))) (.s (.r [.a, .f (rOf f17)]) (.s (.s (.a) (.k (.l (.h [] (eOf f18) (stOf f18) (rOf f18))))) (.s (.r [.a, .f (rOf f19)]) (.s (.r [.a, .f (rOf f20), .a, .a, .a, .a, .a, .g false (.a), .g false (.a), .g false (.v (vOf f8) (.a)), .g false (.f (rOf f22)), .g false (.a), .v (vOf f23) (.a), .a, .a, .f (rOf f24)]) (.a)))))))))))))) [] .a (by kernel_rfl)
end Go.Mac

namespace Go.Mac.Nd
open Go Go.Eng Go.Proofs
set_option linter.unusedVariables false
set_option maxRecDepth 100000
theorem sub_len {α : Type} [BEq α] [LawfulBEq α] : ∀ {l k : List α}, l.Nodup → (∀ x ∈ l, x ∈ k) → l.length ≤ k.length
  | [], _, _, _ => Nat.zero_le _
  | x :: l, k, hn, hs => by
    obtain ⟨h1, h2⟩ := List.nodup_cons.1 hn
    have hx := hs x (by simp)
    have := sub_len (l := l) (k := k.erase x) h2 (fun y hy => (List.mem_erase_of_ne (by rintro rfl; exact h1 hy)).2 (hs y (by simp [hy])))
    rw [List.length_erase_of_mem hx] at this
    have : 0 < k.length := List.length_pos_of_mem hx
    simp; omega
def keysL (l : List (Int × LV)) : List Int := l.map (·.1)
theorem kget_some_iff (n : Int) : ∀ l : List (Int × LV), (kget l n).isSome = true ↔ n ∈ keysL l
  | [] => by simp [kget, keysL]
  | (k, v) :: l => by
    have ih := kget_some_iff n l
    simp only [kget, keysL, List.map_cons, List.mem_cons]
    split
    · rename_i h; simp [h]
    · rename_i h
      rw [ih]
      constructor
      · exact fun q => .inr q
      · rintro (q | q)
        · exact absurd q.symm h
        · exact q
theorem kset_keys (n : Int) (x : LV) : ∀ l : List (Int × LV), keysL (kset l n x) = keysL l
  | [] => rfl
  | (k, v) :: l => by
    have ih := kset_keys n x l
    simp only [kset]
    split
    · rename_i h; simp [keysL, h]
    · simp only [keysL, List.map_cons] at ih ⊢; rw [ih]
theorem kins_perm (n : Int) (x : LV) : ∀ l : List (Int × LV), (keysL (kins l n x)).Perm (n :: keysL l)
  | [] => .refl _
  | (k, v) :: l => by
    have ih := kins_perm n x l
    simp only [kins]
    split
    · exact .refl _
    · simp only [keysL, List.map_cons] at ih ⊢
      exact (ih.cons k).trans (.swap _ _ _)
theorem kput_keys (l : List (Int × LV)) (n : Int) (x : LV) : (n ∈ keysL l → keysL (kput l n x) = keysL l) ∧ (n ∉ keysL l → (keysL (kput l n x)).Perm (n :: keysL l)) := by
  unfold kput
  constructor
  · intro h; rw [if_pos ((kget_some_iff n l).2 h)]; exact kset_keys n x l
  · intro h; rw [if_neg (fun h' => h ((kget_some_iff n l).1 h'))]; exact kins_perm n x l
theorem kinc_keys (l : List (Int × LV)) (n : Int) : (n ∈ keysL l → keysL (kinc l n) = keysL l) ∧ (n ∉ keysL l → (keysL (kinc l n)).Perm (n :: keysL l)) := by
  unfold kinc
  split
  · exact kput_keys l n _
  · exact kput_keys l n _
theorem kinc_mem (l : List (Int × LV)) (n a : Int) : a ∈ keysL (kinc l n) ↔ a = n ∨ a ∈ keysL l := by
  by_cases h : n ∈ keysL l
  · rw [(kinc_keys l n).1 h]
    exact ⟨.inr, by rintro (rfl | q); exact h; exact q⟩
  · rw [((kinc_keys l n).2 h).mem_iff]; simp
theorem kinc_nodup (l : List (Int × LV)) (n : Int) (hn : (keysL l).Nodup) : (keysL (kinc l n)).Nodup := by
  by_cases h : n ∈ keysL l
  · rw [(kinc_keys l n).1 h]; exact hn
  · exact ((kinc_keys l n).2 h).nodup_iff.2 (List.nodup_cons.2 ⟨h, hn⟩)
theorem kincs_mem : ∀ (ks : List Int) (l : List (Int × LV)) (a : Int), a ∈ keysL (List.foldl kinc l ks) ↔ a ∈ ks ∨ a ∈ keysL l
  | [], l, a => by simp
  | k :: ks, l, a => by
    rw [List.foldl_cons, kincs_mem ks, kinc_mem]
    simp only [List.mem_cons]
    constructor
    · rintro (h | h | h)
      · exact .inl (.inr h)
      · exact .inl (.inl h)
      · exact .inr h
    · rintro ((h | h) | h)
      · exact .inr (.inl h)
      · exact .inl h
      · exact .inr (.inr h)
theorem kincs_nodup : ∀ (ks : List Int) (l : List (Int × LV)), (keysL l).Nodup → (keysL (List.foldl kinc l ks)).Nodup
  | [], l, h => h
  | k :: ks, l, h => kincs_nodup ks _ (kinc_nodup l k h)
theorem pendN_some (a : Int) (b : List Int) (p : List LV) (l : List (Int × LV)) : pendN (pnd (a, some b) :: p) l = pendN p (kinc l a) := rfl
theorem pendN_none (a : Int) (p : List LV) (l : List (Int × LV)) : pendN (pnd (a, none) :: p) l = pendN p l := rfl
theorem pendN_mem : ∀ (p : List (Int × Option (List Int))) (l : List (Int × LV)) (a : Int), a ∈ keysL (pendN (pnds p) l) ↔ (∃ b, (a, some b) ∈ p) ∨ a ∈ keysL l
  | [], l, a => by simp [pendN]
  | (k, some b) :: p, l, a => by
    show a ∈ keysL (pendN (pnd (k, some b) :: pnds p) l) ↔ _
    rw [pendN_some, pendN_mem p, kinc_mem]
    constructor
    · rintro (⟨c, h⟩ | h | h)
      · exact .inl ⟨c, by simp [h]⟩
      · exact .inl ⟨b, by simp [h]⟩
      · exact .inr h
    · rintro (⟨c, h⟩ | h)
      · rcases List.mem_cons.1 h with h | h
        · injection h with h1 h2; exact .inr (.inl h1)
        · exact .inl ⟨c, h⟩
      · exact .inr (.inr h)
  | (k, none) :: p, l, a => by
    show a ∈ keysL (pendN (pnd (k, none) :: pnds p) l) ↔ _
    rw [pendN_none, pendN_mem p]
    simp
theorem pendN_nodup : ∀ (p : List (Int × Option (List Int))) (l : List (Int × LV)), (keysL l).Nodup → (keysL (pendN (pnds p) l)).Nodup
  | [], l, h => h
  | (k, some b) :: p, l, h => by
    show (keysL (pendN (pnd (k, some b) :: pnds p) l)).Nodup
    rw [pendN_some]; exact pendN_nodup p _ (kinc_nodup l k h)
  | (k, none) :: p, l, h => by
    show (keysL (pendN (pnd (k, none) :: pnds p) l)).Nodup
    rw [pendN_none]; exact pendN_nodup p _ h
theorem needs_mem (m : List (Int × List Int)) (p : List (Int × Option (List Int))) (a : Int) : a ∈ keysL (needs m p) ↔ a ∈ mapK m ∨ ∃ b, (a, some b) ∈ p := by
  unfold needs
  rw [pendN_mem, kincs_mem]
  simp only [keysL, List.map_nil, List.not_mem_nil, or_false]
  exact Or.comm
theorem needs_nodup (m : List (Int × List Int)) (p : List (Int × Option (List Int))) : (keysL (needs m p)).Nodup :=
  pendN_nodup p _ (kincs_nodup _ _ (by simp [keysL]))
theorem needs_length (m : List (Int × List Int)) (p : List (Int × Option (List Int))) : (needs m p).length = (keysL (needs m p)).length := by simp [keysL]
theorem needs_le (m m' : List (Int × List Int)) (p p' : List (Int × Option (List Int))) (h : ∀ a, a ∈ keysL (needs m' p') → a ∈ keysL (needs m p)) : (needs m' p').length ≤ (needs m p).length := by
  rw [needs_length, needs_length]; exact sub_len (needs_nodup m' p') h
theorem needs_eq (m m' : List (Int × List Int)) (p p' : List (Int × Option (List Int))) (h : ∀ a, a ∈ keysL (needs m' p') ↔ a ∈ keysL (needs m p)) : (needs m' p').length = (needs m p).length :=
  Nat.le_antisymm (needs_le m m' p p' fun a => (h a).1) (needs_le m' m p' p fun a => (h a).2)
theorem needs_more (m : List (Int × List Int)) (p : List (Int × Option (List Int))) (a : Int) (b : List Int) : (needs m (p ++ [(a, some b)])).length ≤ (needs m p).length + 1 := by
  rw [needs_length, needs_length]
  refine Nat.le_trans (sub_len (k := a :: keysL (needs m p)) (needs_nodup _ _) fun x hx => ?_) (by simp)
  rw [needs_mem] at hx
  rw [List.mem_cons, needs_mem]
  rcases hx with h | ⟨c, h⟩
  · exact .inr (.inl h)
  · rcases List.mem_append.1 h with h | h
    · exact .inr (.inr ⟨c, h⟩)
    · simp at h; exact .inl h.1
theorem needs_same (m : List (Int × List Int)) (p : List (Int × Option (List Int))) (a : Int) (b : List Int) (h : a ∈ keysL (needs m p)) : (needs m (p ++ [(a, some b)])).length = (needs m p).length := by
  refine needs_eq _ _ _ _ fun x => ?_
  rw [needs_mem, needs_mem]
  constructor
  · rintro (q | ⟨c, q⟩)
    · exact .inl q
    · rcases List.mem_append.1 q with q | q
      · exact .inr ⟨c, q⟩
      · simp at q
        rw [q.1, ← needs_mem]; exact h
  · rintro (q | ⟨c, q⟩)
    · exact .inl q
    · exact .inr ⟨c, by simp [q]⟩
theorem needs_free (m : List (Int × List Int)) (p : List (Int × Option (List Int))) (a : Int) : (needs m (p ++ [(a, none)])).length = (needs m p).length := by
  refine needs_eq _ _ _ _ fun x => ?_
  rw [needs_mem, needs_mem]
  constructor
  · rintro (q | ⟨c, q⟩)
    · exact .inl q
    · simp at q; exact .inr ⟨c, q⟩
  · rintro (q | ⟨c, q⟩)
    · exact .inl q
    · exact .inr ⟨c, by simp [q]⟩
theorem needs_none (l : List (Int × LV)) (a : Int) : kget l a = none ↔ a ∉ keysL l := by
  rw [← kget_some_iff]; simp
theorem needs_int (m : List (Int × List Int)) (p : List (Int × Option (List Int))) : ∀ x ∈ needs m p, ∃ c, x.2 = .int .i64 c ∧ 0 < c := by
  have hk : ∀ (l : List (Int × LV)) (n : Int), (∀ x ∈ l, ∃ c, x.2 = .int .i64 c ∧ 0 < c) → ∀ x ∈ kinc l n, ∃ c, x.2 = .int .i64 c ∧ 0 < c := by
    intro l n h x hx
    have hg : ∀ c, kget l n = some c → ∃ k, c = .int .i64 k ∧ 0 < k := by
      intro c hc
      have : ∀ l : List (Int × LV), kget l n = some c → (n, c) ∈ l := by
        intro l
        induction l with
        | nil => simp [kget]
        | cons y l ih =>
          obtain ⟨k, v⟩ := y
          simp only [kget]
          split
          · rename_i e; intro h; injection h with h; subst h; subst e; simp
          · intro h; exact List.mem_cons_of_mem _ (ih h)
      obtain ⟨k, h1, h2⟩ := h _ (this l hc)
      exact ⟨k, h1, h2⟩
    have hp : ∀ (v : Int), 0 < v → ∀ x ∈ kput l n (.int .i64 v), ∃ c, x.2 = .int .i64 c ∧ 0 < c := by
      intro v hv x hx
      have hs : ∀ l : List (Int × LV), (∀ x ∈ l, ∃ c, x.2 = .int .i64 c ∧ 0 < c) → ∀ x ∈ kset l n (.int .i64 v), ∃ c, x.2 = .int .i64 c ∧ 0 < c := by
        intro l
        induction l with
        | nil => simp [kset]
        | cons y l ih =>
          obtain ⟨k, w⟩ := y
          intro h
          simp only [kset]
          split
          · intro x hx
            rcases List.mem_cons.1 hx with rfl | hx
            · exact ⟨v, rfl, hv⟩
            · exact h x (by simp [hx])
          · intro x hx
            rcases List.mem_cons.1 hx with rfl | hx
            · exact h _ (by simp)
            · exact ih (fun x hx => h x (by simp [hx])) x hx
      have hi : ∀ l : List (Int × LV), (∀ x ∈ l, ∃ c, x.2 = .int .i64 c ∧ 0 < c) → ∀ x ∈ kins l n (.int .i64 v), ∃ c, x.2 = .int .i64 c ∧ 0 < c := by
        intro l
        induction l with
        | nil => simp only [kins]; intro _ x hx; simp at hx; subst hx; exact ⟨v, rfl, hv⟩
        | cons y l ih =>
          obtain ⟨k, w⟩ := y
          intro h
          simp only [kins]
          split
          · intro x hx
            rcases List.mem_cons.1 hx with rfl | hx
            · exact ⟨v, rfl, hv⟩
            · exact h x hx
          · intro x hx
            rcases List.mem_cons.1 hx with rfl | hx
            · exact h _ (by simp)
            · exact ih (fun x hx => h x (by simp [hx])) x hx
      unfold kput at hx
      split at hx
      · exact hs l h x hx
      · exact hi l h x hx
    unfold kinc at hx
    split at hx
    · rename_i k c hc
      obtain ⟨q, h1, h2⟩ := hg _ hc
      injection h1 with _ h1
      exact hp (c + 1) (by omega) x hx
    · exact hp 1 (by omega) x hx
  have hf : ∀ (ks : List Int) (l : List (Int × LV)), (∀ x ∈ l, ∃ c, x.2 = .int .i64 c ∧ 0 < c) → ∀ x ∈ List.foldl kinc l ks, ∃ c, x.2 = .int .i64 c ∧ 0 < c := by
    intro ks
    induction ks with
    | nil => exact fun l h => h
    | cons k ks ih => exact fun l h => ih _ (hk l k h)
  have hq : ∀ (p : List (Int × Option (List Int))) (l : List (Int × LV)), (∀ x ∈ l, ∃ c, x.2 = .int .i64 c ∧ 0 < c) → ∀ x ∈ pendN (pnds p) l, ∃ c, x.2 = .int .i64 c ∧ 0 < c := by
    intro p
    induction p with
    | nil => exact fun l h => h
    | cons y p ih =>
      obtain ⟨a, o⟩ := y
      intro l h
      cases o with
      | none => exact ih l h
      | some b => exact ih _ (hk l a h)
  exact hq p _ (hf _ _ (by simp))
theorem needs_at (m : List (Int × List Int)) (p : List (Int × Option (List Int))) (a : Int) (h : a ∈ keysL (needs m p)) : ∃ c, kget (needs m p) a = some (.int .i64 c) ∧ 0 < c := by
  have h1 := (kget_some_iff a (needs m p)).2 h
  obtain ⟨v, hv⟩ := Option.isSome_iff_exists.1 h1
  have : ∀ l : List (Int × LV), kget l a = some v → (a, v) ∈ l := by
    intro l
    induction l with
    | nil => simp [kget]
    | cons y l ih =>
      obtain ⟨k, w⟩ := y
      simp only [kget]
      split
      · rename_i e; intro h; injection h with h; subst h; subst e; simp
      · intro h; exact List.mem_cons_of_mem _ (ih h)
  obtain ⟨c, h2, h3⟩ := needs_int m p _ (this _ hv)
  simp only at h2
  subst h2
  exact ⟨c, hv, h3⟩
def Asc (m : List (Int × List Int)) : Prop := (mapK m).Pairwise (· < ·)
theorem mset_keys (n : Int) (x : List Int) : ∀ m : List (Int × List Int), mapK (mset m n x) = mapK m
  | [] => rfl
  | (k, v) :: m => by
    have ih := mset_keys n x m
    simp only [mset]
    split
    · rename_i h; simp [mapK, h]
    · simp only [mapK, List.map_cons] at ih ⊢; rw [ih]
theorem mins_mem (n : Int) (x : List Int) (a : Int) : ∀ m : List (Int × List Int), a ∈ mapK (mins m n x) ↔ a = n ∨ a ∈ mapK m
  | [] => by simp [mins, mapK]
  | (k, v) :: m => by
    have ih := mins_mem n x a m
    simp only [mins]
    split
    · simp [mapK]
    · simp only [mapK, List.map_cons, List.mem_cons] at ih ⊢
      rw [ih]
      constructor
      · rintro (h | h | h)
        · exact .inr (.inl h)
        · exact .inl h
        · exact .inr (.inr h)
      · rintro (h | h | h)
        · exact .inr (.inl h)
        · exact .inl h
        · exact .inr (.inr h)
theorem mins_asc (n : Int) (x : List Int) : ∀ m : List (Int × List Int), Asc m → n ∉ mapK m → Asc (mins m n x)
  | [], _, _ => by simp [mins, Asc, mapK]
  | (k, v) :: m, h, hn => by
    have hp : (k :: mapK m).Pairwise (· < ·) := h
    obtain ⟨h1, h2⟩ := List.pairwise_cons.1 hp
    have hnk : n ≠ k := fun e => hn (by simp [mapK, e])
    have hnm : n ∉ mapK m := fun e => hn (by simp only [mapK, List.map_cons, List.mem_cons]; exact .inr e)
    simp only [mins]
    split
    · rename_i hlt
      show (n :: k :: mapK m).Pairwise (· < ·)
      refine .cons (fun y hy => ?_) hp
      rcases List.mem_cons.1 hy with rfl | hy
      · exact hlt
      · have := h1 y hy; omega
    · rename_i hge
      have ih := mins_asc n x m h2 hnm
      show (k :: mapK (mins m n x)).Pairwise (· < ·)
      refine .cons (fun y hy => ?_) ih
      rcases (mins_mem n x y m).1 hy with rfl | hy
      · omega
      · exact h1 y hy
theorem mget_some_iff (n : Int) : ∀ m : List (Int × List Int), (mget m n).isSome = true ↔ n ∈ mapK m
  | [] => by simp [mget, mapK]
  | (k, v) :: m => by
    have ih := mget_some_iff n m
    simp only [mget, mapK, List.map_cons, List.mem_cons] at ih ⊢
    split
    · rename_i h; simp [h]
    · rename_i h
      rw [ih]
      constructor
      · exact fun q => .inr q
      · rintro (q | q)
        · exact absurd q.symm h
        · exact q
theorem mput2_asc {m : List (Int × List Int)} (h : Asc m) (n : Int) (x : List Int) : Asc (mput2 m n x) := by
  unfold mput2
  split
  · unfold Asc; rw [mset_keys]; exact h
  · rename_i hn
    exact mins_asc n x m h (fun q => hn ((mget_some_iff n m).2 q))
theorem mput2_mem (m : List (Int × List Int)) (n : Int) (x : List Int) (a : Int) : a ∈ mapK (mput2 m n x) ↔ a = n ∨ a ∈ mapK m := by
  unfold mput2
  split
  · rename_i h
    rw [mset_keys]
    exact ⟨.inr, by rintro (rfl | q); exact (mget_some_iff _ _).1 h; exact q⟩
  · exact mins_mem n x a m
theorem mdel_sub (n : Int) : ∀ m : List (Int × List Int), (mdel m n).Sublist m
  | [] => .slnil
  | (k, v) :: m => by
    simp only [mdel]
    split
    · exact List.sublist_cons_self _ _
    · exact (mdel_sub n m).cons_cons _
theorem mdel_asc {m : List (Int × List Int)} (h : Asc m) (n : Int) : Asc (mdel m n) := h.sublist ((mdel_sub n m).map _)
theorem mdel_mem {m : List (Int × List Int)} {n a : Int} (h : a ∈ mapK (mdel m n)) : a ∈ mapK m := ((mdel_sub n m).map (·.1)).subset h
theorem mdel_not : ∀ {m : List (Int × List Int)}, Asc m → ∀ n : Int, n ∉ mapK (mdel m n)
  | [], _, n => by simp [mdel, mapK]
  | (k, v) :: m, h, n => by
    have hp : (k :: mapK m).Pairwise (· < ·) := h
    obtain ⟨h1, h2⟩ := List.pairwise_cons.1 hp
    simp only [mdel]
    split
    · rename_i e; subst e
      exact fun q => absurd (h1 _ q) (by omega)
    · rename_i e
      have ih := mdel_not (m := m) h2 n
      simp only [mapK, List.map_cons, List.mem_cons]
      rintro (q | q)
      · exact e q.symm
      · exact ih q
theorem mset_val {m : List (Int × List Int)} {n : Int} {x : List Int} : ∀ {y : Int × List Int}, y ∈ mset m n x → y ∈ m ∨ y = (n, x) := by
  induction m with
  | nil => intro y hy; simp [mset] at hy
  | cons z m ih =>
    obtain ⟨k, v⟩ := z
    intro y hy
    simp only [mset] at hy
    split at hy
    · rcases List.mem_cons.1 hy with rfl | hy
      · exact .inr rfl
      · exact .inl (by simp [hy])
    · rcases List.mem_cons.1 hy with rfl | hy
      · exact .inl (by simp)
      · exact (ih hy).imp (fun q => by simp [q]) id
theorem mins_val {m : List (Int × List Int)} {n : Int} {x : List Int} : ∀ {y : Int × List Int}, y ∈ mins m n x → y ∈ m ∨ y = (n, x) := by
  induction m with
  | nil => intro y hy; simp [mins] at hy; exact .inr hy
  | cons z m ih =>
    obtain ⟨k, v⟩ := z
    intro y hy
    simp only [mins] at hy
    split at hy
    · rcases List.mem_cons.1 hy with rfl | hy
      · exact .inr rfl
      · exact .inl hy
    · rcases List.mem_cons.1 hy with rfl | hy
      · exact .inl (by simp)
      · exact (ih hy).imp (fun q => by simp [q]) id
theorem mput2_val {m : List (Int × List Int)} {n : Int} {x : List Int} {y : Int × List Int} (h : y ∈ mput2 m n x) : y ∈ m ∨ y = (n, x) := by
  unfold mput2 at h
  split at h
  · exact mset_val h
  · exact mins_val h
def inR (a : Int) : Prop := 0 ≤ a ∧ a ≤ 1073741824
def okM (m : List (Int × List Int)) : Prop := Asc m ∧ ∀ x ∈ m, inR x.1 ∧ x.2.length = 64
def okQ (p : List (Int × Option (List Int))) : Prop := ∀ x ∈ p, inR x.1 ∧ ∀ b, x.2 = some b → b.length = 64
theorem okM.put {m : List (Int × List Int)} (h : okM m) {a : Int} (ha : inR a) {b : List Int} (hb : b.length = 64) : okM (mput2 m a b) :=
  ⟨mput2_asc h.1 a b, fun x hx => (mput2_val hx).elim (h.2 x) (by rintro rfl; exact ⟨ha, hb⟩)⟩
theorem okM.del {m : List (Int × List Int)} (h : okM m) (a : Int) : okM (mdel m a) := ⟨mdel_asc h.1 a, fun x hx => h.2 x ((mdel_sub a m).subset hx)⟩
theorem okM.nil : okM [] := ⟨by simp [Asc, mapK], by simp⟩
theorem okM.apply : ∀ {p : List (Int × Option (List Int))} {m : List (Int × List Int)}, okQ p → okM m → okM (applyM p m)
  | [], m, _, h => h
  | (a, some b) :: q, m, hp, h => by
    have hx := hp (a, some b) (by simp)
    exact okM.apply (p := q) (fun x hx => hp x (by simp [hx])) (h.put hx.1 (hx.2 b rfl))
  | (a, none) :: q, m, hp, h => okM.apply (p := q) (fun x hx => hp x (by simp [hx])) (h.del a)
theorem apply_mem : ∀ {p : List (Int × Option (List Int))} {m : List (Int × List Int)} {a : Int}, a ∈ mapK (applyM p m) → a ∈ mapK m ∨ ∃ b, (a, some b) ∈ p
  | [], m, a, h => .inl h
  | (k, some b) :: q, m, a, h => by
    rcases apply_mem (p := q) h with h | ⟨c, h⟩
    · rcases (mput2_mem m k b a).1 h with rfl | h
      · exact .inr ⟨b, by simp⟩
      · exact .inl h
    · exact .inr ⟨c, by simp [h]⟩
  | (k, none) :: q, m, a, h => by
    rcases apply_mem (p := q) h with h | ⟨c, h⟩
    · exact .inl (mdel_mem h)
    · exact .inr ⟨c, by simp [h]⟩
theorem cur_length (m : List (Int × List Int)) (a : Int) : (cur m a).length = 64 := by
  unfold cur; split <;> simp
theorem torn_length (m : List (Int × List Int)) (a : Int) (b : List Int) (hb : b.length = 64) (n : Nat) : (spliceI (cur m a) 0 (b.take n)).length = 64 := by
  rw [spliceI_length, cur_length]; simp; omega
theorem step_val (ks : List Int) (cut last : Int) (k : Nat) (m : List (Int × List Int)) (x : Int × Option (List Int)) (hx : inR x.1 ∧ ∀ b, x.2 = some b → b.length = 64) (h : okM m) :
    okM (stepM ks cut last k m x) ∧ ∀ a, a ∈ mapK (stepM ks cut last k m x) → a ∈ mapK m ∨ ∃ b, x = (a, some b) := by
  unfold stepM
  split
  · exact ⟨h, fun a => .inl⟩
  · obtain ⟨n, o⟩ := x
    cases o with
    | none => exact ⟨h.del n, fun a ha => .inl (mdel_mem ha)⟩
    | some b =>
      have hb := hx.2 b rfl
      simp only
      split
      · exact ⟨h.put hx.1 (torn_length m n b hb _), fun a ha => ((mput2_mem _ _ _ _).1 ha).elim (fun e => .inr ⟨b, by rw [e]⟩) .inl⟩
      · exact ⟨h.put hx.1 hb, fun a ha => ((mput2_mem _ _ _ _).1 ha).elim (fun e => .inr ⟨b, by rw [e]⟩) .inl⟩
theorem crashM_ok (ks : List Int) (cut last : Int) : ∀ (p : List (Int × Option (List Int))) (k : Nat) (m : List (Int × List Int)), okQ p → okM m →
    okM (crashM ks cut last p k m) ∧ ∀ a, a ∈ mapK (crashM ks cut last p k m) → a ∈ mapK m ∨ ∃ b, (a, some b) ∈ p
  | [], k, m, _, h => ⟨h, fun a => .inl⟩
  | x :: q, k, m, hp, h => by
    obtain ⟨s1, s2⟩ := step_val ks cut last k m x (hp x (by simp)) h
    obtain ⟨h1, h2⟩ := crashM_ok ks cut last q (k + 1) _ (fun y hy => hp y (by simp [hy])) s1
    refine ⟨h1, fun a ha => ?_⟩
    rcases h2 a ha with h | ⟨b, h⟩
    · rcases s2 a h with h | ⟨b, h⟩
      · exact .inl h
      · exact .inr ⟨b, by simp [h]⟩
    · exact .inr ⟨b, by simp [h]⟩
theorem okQ.ok64 {p : List (Int × Option (List Int))} (h : okQ p) : ok64 p := fun x hx b hb => (h x hx).2 b hb
theorem okQ.snoc {p : List (Int × Option (List Int))} (h : okQ p) {a : Int} (ha : inR a) (o : Option (List Int)) (ho : ∀ b, o = some b → b.length = 64) : okQ (p ++ [(a, o)]) := by
  intro x hx
  rcases List.mem_append.1 hx with hx | hx
  · exact h x hx
  · simp at hx; subst hx; exact ⟨ha, ho⟩
theorem okM.keys {m : List (Int × List Int)} (h : okM m) (hl : m.length ≤ 1000000) : keysOk (mapE m) := by
  refine ⟨?_, ?_, by simpa [mapE] using hl⟩
  · rw [show (mapE m).map (·.1) = mapK m from mapE_fst m]
    have : ∀ l : List Int, l.Pairwise (· < ·) → ascB l = true := by
      intro l
      induction l with
      | nil => intro _; rfl
      | cons a l ih =>
        intro h
        obtain ⟨h1, h2⟩ := List.pairwise_cons.1 h
        cases l with
        | nil => rfl
        | cons b l =>
          simp only [ascB, Bool.and_eq_true, decide_eq_true_eq]
          exact ⟨h1 b (by simp), ih h2⟩
    exact this _ h.1
  · intro x hx
    simp only [mapE, List.mem_map] at hx
    obtain ⟨y, hy, rfl⟩ := hx
    obtain ⟨⟨h1, h2⟩, _⟩ := h.2 y hy
    simp only
    omega
theorem needs_of (m : List (Int × List Int)) (h : Asc m) : (needs m []).length = m.length := by
  have h1 : (mapK m).Nodup := h.imp (fun h => by omega)
  have h2 : m.length = (mapK m).length := by simp [mapK]
  rw [needs_length, h2]
  refine Nat.le_antisymm (sub_len (needs_nodup m []) fun a ha => ?_) (sub_len h1 fun a ha => ?_)
  · rw [needs_mem] at ha; simpa using ha
  · rw [needs_mem]; exact .inl ha
end Go.Mac.Nd

namespace Go.Mac
open Go Go.Eng Go.Proofs Go.Mac.Nd
set_option linter.unusedVariables false
set_option maxRecDepth 100000
theorem okQ.nil : okQ [] := by intro x h; exact nomatch h
theorem blk64 {b : List Int} (h : b.length = 64) : blk b = b := by
  rw [← blk_padS]; rw [List.take_append_of_le_length (by omega), List.take_of_length_le (by omega)]
theorem splice_blk {b : List Int} (h : b.length ≤ 64) : spliceI (List.replicate 64 0) 0 b = blk b := by
  unfold blk
  rw [Nat.min_eq_left h, List.take_of_length_le (Nat.le_refl _)]
theorem write_any (rm : Int) (m : List (Int × List Int)) (p : List (Int × Option (List Int))) (hp : p.length ≤ 10000) (ho : okQ p) (a : Int) (ha : inR a) (b : List Int) (hb : b.length ≤ 64) :
    (∃ u : Nat, (needs m (p ++ [(a, some (blk b))])).length = u ∧ (u : Int) ≤ max rm (needs m p).length ∧ (a ∈ keysL (needs m p) ∨ ((needs m p).length : Int) < rm) ∧ ∀ k, lrun Tryd.prog C0 (lcall Tryd.prog C0 (k + 20)) (k + 20) 19 [.ptr 0 0, .int .i64 a, .isl 1 (bys b)] ⟨1, [(0, dO rm m p)]⟩ = some (.nili, ⟨1, [(0, dO rm m (p ++ [(a, some (blk b))]))]⟩)) ∨
    (a ∉ keysL (needs m p) ∧ rm ≤ (needs m p).length ∧ ∀ k, lrun Tryd.prog C0 (lcall Tryd.prog C0 (k + 20)) (k + 20) 19 [.ptr 0 0, .int .i64 a, .isl 1 (bys b)] ⟨1, [(0, dO rm m p)]⟩ = some (flt [98,108,111,99,107] a 7, ⟨1, [(0, dO rm m p)]⟩)) := by
  by_cases hm : a ∈ keysL (needs m p)
  · obtain ⟨c, h1, h2⟩ := needs_at m p a hm
    refine .inl ⟨_, rfl, ?_, .inl hm, fun k => ?_⟩
    · rw [needs_same m p a _ hm]; omega
    · rw [← splice_blk hb]; exact write_old k a b rm m p ha.1 ha.2 hb (by omega) ho.ok64.okP c h1 h2
  · by_cases hr : ((needs m p).length : Int) < rm
    · refine .inl ⟨_, rfl, ?_, .inr hr, fun k => ?_⟩
      · have := needs_more m p a (blk b); omega
      · rw [← splice_blk hb]; exact write_new k a b rm m p ha.1 ha.2 hb (by omega) ho.ok64.okP ((needs_none _ _).2 hm) hr
    · exact .inr ⟨hm, by omega, fun k => write_full k a b rm m p ha.1 ha.2 hb (by omega) ho.ok64.okP ((needs_none _ _).2 hm) (by omega)⟩
theorem inR_not {a : Int} (h : ¬ inR a) : a < 0 ∨ 1073741824 < a := by unfold inR at h; omega
theorem sync_needs (m : List (Int × List Int)) (p : List (Int × Option (List Int))) : (needs (applyM p m) []).length ≤ (needs m p).length := needs_le _ _ _ _ fun a ha => by
  rw [needs_mem] at ha ⊢
  rcases ha with h | ⟨b, h⟩
  · exact apply_mem h
  · simp at h
theorem crash_needs (m : List (Int × List Int)) (p : List (Int × Option (List Int))) (hp : okQ p) (hm : okM m) (ks : List Int) (cut : Int) : (needs (crashD m p ks cut) []).length ≤ (needs m p).length := needs_le _ _ _ _ fun a ha => by
  rw [needs_mem] at ha ⊢
  rcases ha with h | ⟨b, h⟩
  · exact (crashM_ok ks cut _ p 0 m hp hm).2 a h
  · simp at h
theorem do_any (rm : Int) (h0 : 0 ≤ rm) (h1 : rm ≤ 255) (m : List (Int × List Int)) (p : List (Int × Option (List Int))) (hm : okM m) (hq : okQ p) (hl : p.length ≤ 60) (hu : ((needs m p).length : Int) ≤ rm) (x : Act5) (hx : Light x = true) :
    ∃ (m' : List (Int × List Int)) (p' : List (Int × Option (List Int))) (L : List LV) (e : Bool), okM m' ∧ okQ p' ∧ p'.length ≤ p.length + 1 ∧ ((needs m' p').length : Int) ≤ rm ∧
      ∀ j, lrun Tryd.prog C0 (lcall Tryd.prog C0 (j + 180)) (j + 180) 10 [.ptr 0 0, rNil rm, opA x.kind x.at_ x.b x.keep x.cut] ⟨1, [(0, dO rm m p)]⟩ = some (.tup [rE rm L, .bool e], ⟨1, [(0, dO rm m' p')]⟩) := by
  obtain ⟨kind, a, b, ks, cut⟩ := x
  simp only [Light, Bool.and_eq_true, decide_eq_true_eq] at hx
  obtain ⟨hb, hks⟩ := hx
  simp only
  by_cases k0 : kind = 0
  · subst k0
    by_cases ha : inR a
    · by_cases hb64 : b.length ≤ 64
      · rcases write_any rm m p (by omega) hq a ha b hb64 with ⟨u, e1, e2, e3, W⟩ | ⟨e1, e2, W⟩
        · have hpos : 0 < rm := by
            rcases e3 with h | h
            · have : 0 < (needs m p).length := by rw [needs_length]; exact List.length_pos_of_mem h
              omega
            · omega
          exact ⟨m, p ++ [(a, some (blk b))], _, _, hm, hq.snoc ha _ (fun c hc => by injection hc with hc; subst hc; simp), by simp, by rw [e1]; omega, fun j => do_write_ok (j + 100) a cut b ks rm m p _ ha.1 ha.2 hb64 hpos W⟩
        · by_cases hr : rm ≤ 0
          · exact ⟨m, p, _, _, hm, hq, by omega, hu, fun j => do_write_full0 (j + 100) a cut b ks rm m p ha.1 ha.2 hb64 hr W⟩
          · exact ⟨m, p, _, _, hm, hq, by omega, hu, fun j => do_write_full1 (j + 100) a cut b ks rm m p ha.1 ha.2 hb64 (by omega) W⟩
      · exact ⟨m, p, _, _, hm, hq, by omega, hu, fun j => do_write_long (j + 100) a cut b ks rm m p ha.1 ha.2 (by omega) (by omega)⟩
    · exact ⟨m, p, _, _, hm, hq, by omega, hu, fun j => do_write_bad (j + 100) a cut b ks rm m p (inR_not ha)⟩
  by_cases k1 : kind = 1
  · subst k1
    by_cases ha : inR a
    · exact ⟨m, p ++ [(a, none)], _, _, hm, hq.snoc ha _ (fun c hc => by simp at hc), by simp, by rw [needs_free]; exact hu, fun j => do_free_ok (j + 100) a cut b ks rm m p ha.1 ha.2 (by omega)⟩
    · exact ⟨m, p, _, _, hm, hq, by omega, hu, fun j => do_free_bad (j + 100) a cut b ks rm m p (inR_not ha)⟩
  by_cases k2 : kind = 2
  · subst k2
    by_cases ha : inR a
    · exact ⟨m, p, _, _, hm, hq, by omega, hu, fun j => do_read_ok (j + 100) a cut b ks rm m p ha.1 ha.2 (by omega) hq.ok64.okP (by omega) _ (fun k hk => same_any k _ _ (by rw [rd_length]; omega) (by simp) (by rw [rd_length]; exact hk))⟩
    · exact ⟨m, p, _, _, hm, hq, by omega, hu, fun j => do_read_bad (j + 100) a cut b ks rm m p (inR_not ha) (by omega) hq.ok64.okP⟩
  by_cases k3 : kind = 3
  · subst k3
    exact ⟨applyM p m, [], _, _, hm.apply hq, okQ.nil, by simp, by have := sync_needs m p; omega, fun j => do_sync (j + 100) a cut b ks rm m _ p (by omega) (fun k hk => by have := sync_any (k + 29) rm m p (by omega) (by omega) hq.ok64; exact this)⟩
  by_cases k4 : kind = 4
  · subst k4
    exact ⟨crashD m p ks cut, [], _, _, (crashM_ok ks cut _ p 0 m hq hm).1, okQ.nil, by simp, by have := crash_needs m p hq hm ks cut; omega, fun j => do_crash (j + 100) a cut b ks rm m _ p (fun k => crash_any (k + 10) rm m p (by omega) (by omega) hq.ok64 ks cut)⟩
  by_cases k5 : kind = 5
  · subst k5
    exact ⟨[], [], _, _, okM.nil, okQ.nil, by simp, by simpa [needs, pendN] using h0, fun j => do_wipe (j + 100) a cut b ks rm m p⟩
  exact ⟨m, p, _, _, hm, hq, by omega, hu, fun j => do_id (j + 100) kind a cut b ks rm m p k0 k1 k2 k3 k4 k5⟩
end Go.Mac

namespace Go.Mac
open Go Go.Eng Go.Proofs Go.Mac.Nd
set_option linter.unusedVariables false
set_option maxRecDepth 100000
theorem full_loop (rm at_ : Int) (l : List Act5) (hl : l.length ≤ 60) (hL : l.all Light = true) (h0 : 0 ≤ rm) (h1 : rm ≤ 255) : ∀ (j i fu : Nat) (m : List (Int × List Int)) (p : List (Int × Option (List Int))), i + j = l.length → j < fu → okM m → okQ p → p.length ≤ i → ((needs m p).length : Int) ≤ rm →
    ∃ m' p', loopAt Tryd.prog C0 (400 + 200) 5 0 0 fu (flE rm at_ l i) ⟨1, [(0, dO rm m p)]⟩ = some (.exit 0, flX rm at_ l l.length, ⟨1, [(0, dO rm m' p')]⟩) ∧ okM m' ∧ okQ p' ∧ p'.length ≤ 60 ∧ ((needs m' p').length : Int) ≤ rm
  | 0, i, fu, m, p, hi, hf, hm, hq, hp, hu => by
    obtain ⟨fu, rfl⟩ : ∃ q, fu = q + 1 := ⟨fu - 1, by omega⟩
    obtain rfl : i = l.length := by omega
    exact ⟨m, p, fl_end 400 fu rm at_ l hl m p, hm, hq, by omega, hu⟩
  | j + 1, i, fu, m, p, hi, hf, hm, hq, hp, hu => by
    obtain ⟨fu, rfl⟩ : ∃ q, fu = q + 1 := ⟨fu - 1, by omega⟩
    have hlt : i < l.length := by omega
    have hx : l[i]? = some l[i] := List.getElem?_eq_getElem hlt
    have hLx : Light l[i] = true := List.all_eq_true.1 hL _ (List.getElem_mem hlt)
    generalize l[i] = x at hx hLx
    obtain ⟨m1, p1, L, e, g1, g2, g3, g4, D⟩ := do_any rm h0 h1 m p hm hq (by omega) hu x hLx
    obtain ⟨m', p', r1, r2⟩ := full_loop rm at_ l hl hL h0 h1 j (i + 1) fu m1 p1 (by omega) (by omega) g1 g2 (by omega) g4
    exact ⟨m', p', fl_step 400 fu rm at_ l hl h0 h1 (i : Int) (by omega) (by omega) x.kind x.at_ x.b x.keep x.cut (ops5_at hx) m m1 p p1 L e _ g4 D (fun k => used_ok k rm m1 p1 (by omega) g2.ok64.okP) _ r1, r2⟩
theorem write_anyN (rm : Int) (m : List (Int × List Int)) (p : List (Int × Option (List Int))) (hp : p.length ≤ 10000) (ho : okQ p) (a : Int) (ha : inR a) :
    (∀ k, lrun Tryd.prog C0 (lcall Tryd.prog C0 (k + 20)) (k + 20) 19 [.ptr 0 0, .int .i64 a, .nils] ⟨1, [(0, dO rm m p)]⟩ = some (.nili, ⟨1, [(0, dO rm m (p ++ [(a, some (List.replicate 64 0))]))]⟩)) ∨
    (rm ≤ (needs m p).length ∧ ∀ k, lrun Tryd.prog C0 (lcall Tryd.prog C0 (k + 20)) (k + 20) 19 [.ptr 0 0, .int .i64 a, .nils] ⟨1, [(0, dO rm m p)]⟩ = some (flt [98,108,111,99,107] a 7, ⟨1, [(0, dO rm m p)]⟩)) := by
  by_cases hm : a ∈ keysL (needs m p)
  · obtain ⟨c, h1, h2⟩ := needs_at m p a hm
    exact .inl fun k => write_oldN k a rm m p ha.1 ha.2 (by omega) ho.ok64.okP c h1 h2
  · by_cases hr : ((needs m p).length : Int) < rm
    · exact .inl fun k => write_newN k a rm m p ha.1 ha.2 (by omega) ho.ok64.okP ((needs_none _ _).2 hm) hr
    · exact .inr ⟨by omega, fun k => write_fullN k a rm m p ha.1 ha.2 (by omega) ho.ok64.okP ((needs_none _ _).2 hm) (by omega)⟩
def frees (m : List (Int × List Int)) : List (Int × Option (List Int)) := m.map fun x => (x.1, none)
theorem frees_length (m : List (Int × List Int)) : (frees m).length = m.length := by simp [frees]
theorem apply_frees : ∀ m : List (Int × List Int), applyM (frees m) m = []
  | [] => rfl
  | (k, v) :: m => by
    show applyM (frees m) (mdel ((k, v) :: m) k) = []
    simp only [mdel, if_true]
    exact apply_frees m
theorem okQ.frees {m : List (Int × List Int)} (h : okM m) : okQ (frees m) := by
  intro x hx
  obtain ⟨y, hy, rfl⟩ := List.mem_map.1 hx
  exact ⟨(h.2 y hy).1, fun b hb => by simp at hb⟩
theorem okQ.app {p q : List (Int × Option (List Int))} (h : okQ p) (k : okQ q) : okQ (p ++ q) := fun x hx => (List.mem_append.1 hx).elim (h x) (k x)
theorem okQ.take {p : List (Int × Option (List Int))} (h : okQ p) (n : Nat) : okQ (p.take n) := fun x hx => h x (List.mem_of_mem_take hx)
theorem cellsL_at {m : List (Int × List Int)} {i : Nat} {x : Int × List Int} (h : m[i]? = some x) : (cellsL m)[i]? = some (.agg [.int .i64 x.1, .isl 1 (bys (blk x.2))]) := by
  simp [cellsL, cellL, h]
theorem free_loopG (rm at_ : Int) (c : List (Int × List Int)) (hc : okM c) (hl : c.length ≤ 255) (m : List (Int × List Int)) (p0 : List (Int × Option (List Int))) (hp0 : p0.length ≤ 100) : ∀ (j i fu : Nat), i + j = c.length → j < fu →
    loopAt Tryd.prog C0 (400 + 200) 5 1 0 fu (glE rm at_ c i) ⟨1, [(0, dO rm m (p0 ++ (frees c).take i))]⟩ = some (.exit 2, glX rm at_ c c.length, ⟨1, [(0, dO rm m (p0 ++ frees c))]⟩)
  | 0, i, fu, hi, hf => by
    obtain ⟨fu, rfl⟩ : ∃ q, fu = q + 1 := ⟨fu - 1, by omega⟩
    obtain rfl : i = c.length := by omega
    rw [List.take_of_length_le (by rw [frees_length]; exact Nat.le_refl _)]
    exact gl_end 400 fu rm at_ c m (by omega) _
  | j + 1, i, fu, hi, hf => by
    obtain ⟨fu, rfl⟩ : ∃ q, fu = q + 1 := ⟨fu - 1, by omega⟩
    have hlt : i < c.length := by omega
    have hx : c[i]? = some c[i] := List.getElem?_eq_getElem hlt
    have hm := (hc.2 _ (List.getElem_mem hlt)).1
    have ih := free_loopG rm at_ c hc hl m p0 hp0 j (i + 1) fu (by omega) (by omega)
    have ht : p0 ++ (frees c).take (i + 1) = (p0 ++ (frees c).take i) ++ [(c[i].1, none)] := by
      rw [List.take_succ_eq_append_getElem (by rw [frees_length]; exact hlt), ← List.append_assoc]
      simp [frees]
    rw [ht] at ih
    generalize c[i] = x at hx hm ih
    exact gl_step 400 fu rm at_ c m (by omega) (i : Int) (by omega) (by omega) x.1 _ (cellsL_at hx) _ _ (fun k => free_ok k x.1 rm m _ hm.1 hm.2 (by simp [frees_length]; omega)) _ ih
theorem free_loopH (rm at_ : Int) (c : List (Int × List Int)) (hc : okM c) (hl : c.length ≤ 255) (m : List (Int × List Int)) : ∀ (j i fu : Nat), i + j = c.length → j < fu →
    loopAt Tryd.prog C0 (400 + 200) 5 2 0 fu (hlE rm at_ c i) ⟨1, [(0, dO rm m ((frees c).take i))]⟩ = some (.exit 4, hlX rm at_ c c.length, ⟨1, [(0, dO rm m (frees c))]⟩)
  | 0, i, fu, hi, hf => by
    obtain ⟨fu, rfl⟩ : ∃ q, fu = q + 1 := ⟨fu - 1, by omega⟩
    obtain rfl : i = c.length := by omega
    rw [List.take_of_length_le (by rw [frees_length]; exact Nat.le_refl _)]
    exact hl_end 400 fu rm at_ c m (by omega) _
  | j + 1, i, fu, hi, hf => by
    obtain ⟨fu, rfl⟩ : ∃ q, fu = q + 1 := ⟨fu - 1, by omega⟩
    have hlt : i < c.length := by omega
    have hx : c[i]? = some c[i] := List.getElem?_eq_getElem hlt
    have hm := (hc.2 _ (List.getElem_mem hlt)).1
    have ih := free_loopH rm at_ c hc hl m j (i + 1) fu (by omega) (by omega)
    have ht : (frees c).take (i + 1) = (frees c).take i ++ [(c[i].1, none)] := by
      rw [List.take_succ_eq_append_getElem (by rw [frees_length]; exact hlt)]
      simp [frees]
    rw [ht] at ih
    generalize c[i] = x at hx hm ih
    exact hl_step 400 fu rm at_ c m (by omega) (i : Int) (by omega) (by omega) x.1 _ (cellsL_at hx) _ _ (fun k => free_ok k x.1 rm m _ hm.1 hm.2 (by simp [frees_length]; omega)) _ ih
theorem m_le (m : List (Int × List Int)) (h : okM m) (p : List (Int × Option (List Int))) : m.length ≤ (needs m p).length := by
  rw [← needs_of m h.1]
  refine needs_le _ _ _ _ fun a ha => ?_
  rw [needs_mem] at ha ⊢
  rcases ha with h | ⟨b, h⟩
  · exact .inl h
  · simp at h
theorem works_more : lrun Tryd.prog C0 (lcall Tryd.prog C0 (400 + 199)) (400 + 199) 7 [] ⟨0, []⟩ = some (.bool true, ⟨0, []⟩) := by kernel_rfl
theorem full_ok (rm at_ : Int) (l : List Act5) (h0 : 0 ≤ rm) (h1 : rm ≤ 255) (ha : 0 ≤ at_) (ha2 : at_ ≤ 65535) :
    lrun Tryd.prog C0 (lcall Tryd.prog C0 (400 + 200)) (400 + 200) 5 [.int .u8 rm, .isl 5 (ops5 l), .int .u16 at_] ⟨0, []⟩ = some (.bool true, ⟨0, []⟩) := by
  cases hL : lightB l with
  | false => exact full_heavy 400 rm at_ l hL (by omega) works_more
  | true =>
  have hL2 := hL
  simp only [lightB, Bool.and_eq_true, decide_eq_true_eq] at hL2
  obtain ⟨hlen, hall⟩ := hL2
  obtain ⟨m, p, F, hm, hq, hp, hu⟩ := full_loop rm at_ l hlen hall h0 h1 l.length 0 600 [] [] (by omega) (by omega) okM.nil okQ.nil (by simp) (by simpa [needs, pendN] using h0)
  have hml := m_le m hm p
  have hR : inR at_ := ⟨ha, by omega⟩
  have U := fun k => used_ok k rm m p (by omega) hq.ok64.okP
  have U0 : ∀ j, lrun Tryd.prog C0 (lcall Tryd.prog C0 (j + 20)) (j + 20) 14 [.ptr 0 0] ⟨1, [(0, dO rm [] [])]⟩ = some (.int .i64 0, ⟨1, [(0, dO rm [] [])]⟩) := fun j => used_ok j rm [] [] (by simp) okQ.nil.ok64.okP
  have H := free_loopH rm at_ m hm (by omega) m m.length 0 600 (by omega) (by omega)
  have Y : ∀ j, 590 ≤ j + 190 → lrun Tryd.prog C0 (lcall Tryd.prog C0 (j + 190)) (j + 190) 17 [.ptr 0 0] ⟨1, [(0, dO rm m (frees m))]⟩ = some (.tup [], ⟨1, [(0, dO rm [] [])]⟩) := fun j hj => by
    have := sync_any (j + 149) rm m (frees m) (by rw [frees_length]; omega) (by rw [frees_length]; omega) (okQ.frees hm).ok64
    rw [apply_frees] at this
    exact this
  have W0 : 0 < rm → ∀ j, lrun Tryd.prog C0 (lcall Tryd.prog C0 (j + 20)) (j + 20) 19 [.ptr 0 0, .int .i64 at_, .nils] ⟨1, [(0, dO rm [] [])]⟩ = some (.nili, ⟨1, [(0, dO rm [] [(at_, some (List.replicate 64 0))])]⟩) := fun hr j => by
    rcases write_anyN rm [] [] (by simp) okQ.nil at_ hR with h | ⟨h, _⟩
    · exact h j
    · simp [needs, pendN] at h; omega
  rcases write_anyN rm m p (by omega) hq at_ hR with W | ⟨hf, W⟩
  · have hq1 : okQ (p ++ [(at_, some (List.replicate 64 0))]) := hq.snoc hR _ (fun c hc => by injection hc with hc; subst hc; simp)
    have C := fun j (hj : 590 ≤ j + 60) => cells_ok j rm m (p ++ [(at_, some (List.replicate 64 0))]) (hm.keys (by omega)) (by omega)
    have G := free_loopG rm at_ m hm (by omega) m (p ++ [(at_, some (List.replicate 64 0))]) (by simp; omega) m.length 0 600 (by omega) (by omega)
    rw [List.take_zero, List.append_nil] at G
    have K := fun j (hj : 590 ≤ j + 60) => crash_none j rm m (p ++ [(at_, some (List.replicate 64 0))] ++ frees m) (by simp [frees_length]; omega) (by simp [frees_length]; omega) 0
    by_cases hr : rm < 1
    · exact full_thruA0 400 rm at_ l hL hlen h0 h1 ha ha2 (by omega) m (by omega) p _ _ _ _ F U W C G K H Y U0 hr works_more
    · exact full_thruA1 400 rm at_ l hL hlen h0 h1 ha ha2 (by omega) m (by omega) p _ _ _ _ F U W C G K H Y U0 (by omega) (W0 (by omega)) works_more
  · have C := fun j (hj : 590 ≤ j + 60) => cells_ok j rm m p (hm.keys (by omega)) (by omega)
    have G := free_loopG rm at_ m hm (by omega) m p (by omega) m.length 0 600 (by omega) (by omega)
    rw [List.take_zero, List.append_nil] at G
    have K := fun j (hj : 590 ≤ j + 60) => crash_none j rm m (p ++ frees m) (by simp [frees_length]; omega) (by simp [frees_length]; omega) 0
    by_cases hr : rm < 1
    · exact full_thruB0 400 rm at_ l hL hlen h0 h1 ha ha2 (by omega) m (by omega) p _ _ _ F U W hf C G K H Y U0 hr works_more
    · exact full_thruB1 400 rm at_ l hL hlen h0 h1 ha ha2 (by omega) m (by omega) p _ _ _ F U W hf C G K H Y U0 (by omega) (W0 (by omega)) works_more
end Go.Mac

namespace Go.Mac
open Go Go.Eng Go.Proofs
set_option maxHeartbeats 0
set_option maxRecDepth 100000
set_option linter.unusedSimpArgs false
def C1 : Cfg := ⟨fun _ => none, fun f => f == 35⟩
theorem right_ok1 (n : Nat) (at_ : Int) (h : 0 ≤ at_) (h2 : at_ ≤ 1073741824) : lrun Tryd.prog C1 (lcall Tryd.prog C1 (n + 9)) (n + 9) 39 [.int .i64 at_] ⟨0, []⟩ = some (.nili, ⟨0, []⟩) := by
  have f1 : decide (at_ < 0) = false := by (simp [-List.reduceReplicate]; omega)
  have f2 : LV.bool (if decide (at_ < 0) = true then true else decide (1073741824 < at_)) = LV.bool false := by (simp [-List.reduceReplicate]; omega)
  exact drun_ok (fun h => And.intro (congrArg some f1) <| And.intro (congrArg some f1) <| And.intro (f2) <| h) (.s (.a) (.s (.s (.r [.a, .a, .a, .g false (.a), .g false (.a), .v (vOf f2) (.a)]) (.a)) (.a))) [] .a (by kernel_rfl)
theorem right_no1 (n : Nat) (at_ : Int) (h : at_ < 0 ∨ 1073741824 < at_) : lrun Tryd.prog C1 (lcall Tryd.prog C1 (n + 9)) (n + 9) 39 [.int .i64 at_] ⟨0, []⟩ = some (.ifc 95 (.agg [.str [98,108,111,99,107], .int .i64 at_, .ifc 31 (.int .i64 2)]), ⟨0, []⟩) := by
  by_cases h1 : at_ < 0
  · have f1 : decide (at_ < 0) = true := by (simp [-List.reduceReplicate]; omega)
    have f2 : lpick (decide (at_ < 0)) (LV.bool true) LV.any = some (LV.bool true) := by (simp [-List.reduceReplicate]; omega)
    exact drun_ok (fun h => And.intro (congrArg some f1) <| And.intro (congrArg some f1) <| And.intro (x_map (st := (St.mk 0 [])) f2) <| h) (.s (.a) (.s (.s (.r [.a, .a, .a, .g true (.a), .g true (.a), .t (rOf (x_map (st := (St.mk 0 [])) f2))]) (.a)) .a)) [] .a (by kernel_rfl)
  · have : 1073741824 < at_ := by omega
    have f1 : decide (at_ < 0) = false := by (simp [-List.reduceReplicate]; omega)
    have f2 : LV.bool (if decide (at_ < 0) = true then true else decide (1073741824 < at_)) = LV.bool true := by (simp [-List.reduceReplicate]; omega)
    exact drun_ok (fun h => And.intro (congrArg some f1) <| And.intro (congrArg some f1) <| And.intro (f2) <| h) (.s (.a) (.s (.s (.r [.a, .a, .a, .g false (.a), .g false (.a), .v (vOf f2) (.a)]) (.a)) .a)) [] .a (by kernel_rfl)
theorem whole_ok1 (n : Nat) (b : List Int) : lrun Tryd.prog C1 (lcall Tryd.prog C1 (n + 9)) (n + 9) 35 [.isl 1 (bys b)] ⟨0, []⟩ = some (.sl 1 0 0 64 none, ⟨1, [(0, .row 5 1 (bys (blk b)))]⟩) := by
  have f1 : okElems true 1 (sealL (bys b)) = true := by simp
  have f2 : 64 ≤ 64 := by omega
  have f3 : LV.int IntKind.i64 (↑(min (List.length (sealL (bys b))) 64) : Int) = LV.int IntKind.i64 (↑(min (List.length b) 64) : Int) := by simp
  have f4 : LObj.row 5 1 (lsplice (List.replicate 64 (LV.int IntKind.u8 0)) 0 (List.take (min (List.length (sealL (bys b))) 64) (sealL (bys b)))) = LObj.row 5 1 (bys (spliceI (List.replicate 64 0) 0 (List.take (min (List.length b) 64) b))) := by simp
  exact drun_ok (fun h => And.intro (f1) <| And.intro (f2) <| And.intro (f3) <| And.intro (congrArg some f4) <| h) (.s (.a) (.s (.a) (.s (.r [.a, .a, .x 0 (vOf f4) (.v (vOf f3) (.q))]) (.a)))) [] .a (by kernel_rfl)
theorem whole_nil1 (n : Nat) : lrun Tryd.prog C1 (lcall Tryd.prog C1 (n + 9)) (n + 9) 35 [.nils] ⟨0, []⟩ = some (.sl 1 0 0 64 none, ⟨1, [(0, .row 5 1 (bys (blk [])))]⟩) := by
  exact drun_ok (fun h => h) (.a) [] .a (by kernel_rfl)
end Go.Mac

namespace Go.Proofs.YtddbfjgodbfaoaaDoor.T
open Go Go.Eng Go.Mac Go.Proofs.YtddbfjgodbfaoaaDoor.Ty
set_option linter.unusedSimpArgs false
set_option linter.unusedVariables false

theorem extC1 : ExtSound Tryd.prog C1 := fun f F h => by simp [C1] at h
theorem mixed : Tryd.prog.follows .mixedOrders = true := by kernel_rfl
def R1 : Inst := ⟨id, id, fun _ => false⟩
theorem Meets.wkpost {P : Program} {f : FuncId} {as_ : List AV} {s : Hp} {K : AV → Hp → Prop} (h : Meets P f as_ s (fun r t => ∃ r' t', Wk r r' ∧ HpWk t t' ∧ K r' t')) : Meets P f as_ s K :=
  Meets.sw (h.mono fun r t ⟨r', t', h1, h2, h3⟩ => ⟨r', t', SW.wk (fun _ => h1) h2, h3⟩)
theorem meets_run {n : Nat} {f : FuncId} {as_ : List LV} {v : LV} {st : St} (h : lrun Tryd.prog C1 (lcall Tryd.prog C1 n) n f as_ ⟨0, []⟩ = some (v, st)) (hr : refsL as_ = []) {K : AV → Hp → Prop}
    (hk : ∀ R t, SRel Tryd.prog R st t → (∀ b ∈ refs v, b < st.next) → K (inst R true v) t) : Meets Tryd.prog f (instL R1 true as_) [] K := by
  have := lrun_sound extC1 mixed (lcall_sound extC1 mixed n) h R1 [] (SRel.empty _ _) (by rw [hr]; simp)
  refine Meets.wkpost (this.mono ?_)
  rintro r t ⟨R', s', _, _, g3, g4, g5, g6⟩
  exact ⟨_, s', g3, g5, hk R' s' g6 g4⟩
theorem srel_nil {P : Program} {R : Inst} {t : Hp} (h : SRel P R ⟨0, []⟩ t) : t = [] := by
  have := h.ents
  cases this; rfl
theorem right_av (at_ : Int) (h : 0 ≤ at_ ∧ at_ ≤ 1073741824) (s : Hp) (K : AV → Hp → Prop) (hk : K (.v .nilIface) s) : Meets Tryd.prog 39 [.v (.int .i64 at_)] s K := by
  refine Meets.alone ?_
  have := meets_run (K := fun r t => K r s) (right_ok1 0 at_ h.1 h.2) (by simp [refsL, refs]) (fun R t ht _ => by simpa [inst] using hk)
  simpa [instL, inst] using this
theorem right_av_no (at_ : Int) (h : at_ < 0 ∨ 1073741824 < at_) (s : Hp) (K : AV → Hp → Prop) (hk : K (.ifc 95 (.agg [.v (.string ⟨#[98,108,111,99,107]⟩), .v (.int .i64 at_), .v (.iface 31 (.int .i64 2))])) s) : Meets Tryd.prog 39 [.v (.int .i64 at_)] s K := by
  refine Meets.alone ?_
  have := meets_run (K := fun r t => K r s) (right_no1 0 at_ h) (by simp [refsL, refs]) (fun R t ht _ => by simpa [inst, instL, mkIfc] using hk)
  simpa [instL, inst] using this
def cel (b : List Int) : List AV := b.map fun n => .v (.int .u8 n)
theorem cel_bys (R : Inst) (l : Bool) (b : List Int) : instL R l (bys b) = cel b := by
  rw [instL_eq]; unfold bys cel
  rw [List.map_map]
  apply List.map_congr_left
  intro x _
  cases l <;> simp [inst]
theorem cel_flat (b : List Int) : (cel b).flatMap cellsOf = cel b := by
  unfold cel
  induction b with
  | nil => rfl
  | cons x b ih => rw [List.map_cons, List.flatMap_cons, ih]; rfl
theorem whole_end {b : List Int} {R : Inst} {t : Hp} (ht : SRel Tryd.prog R ⟨1, [(0, .row 5 1 (bys (blk b)))]⟩ t) :
    ∃ q cap, 64 ≤ cap ∧ cap ≤ maxLen ∧ inst R true (.sl 1 0 0 64 none) = .v (.slice (some ⟨q, 0, none⟩) 64 cap) ∧ t = [(q, .cells 5 (cel (blk b)) (cap * 1))] := by
  have he := ht.ents
  cases he with
  | cons ho hrest =>
    cases hrest
    generalize hx : bys (blk b) = xs at ho
    have hxl : xs.length = 64 := by rw [← hx]; simp
    cases ho with
    | rowNil _ _ hz => simp at hxl
    | row _ _ _ hz ok =>
      subst hx
      refine ⟨R.ρ 0, R.κ 0, ?_, ok.cap, ?_, ?_⟩
      · have := ok.le; rw [hxl] at this; exact this
      · simp [inst, slInst, hz]
      · rw [cel_bys, cel_flat]; rfl
theorem whole_av (b : List Int) (s : Hp) (K : AV → Hp → Prop) (hk : ∀ q cap, q ∉ s.keys → 64 ≤ cap → cap ≤ maxLen → K (.v (.slice (some ⟨q, 0, none⟩) 64 cap)) ((q, .cells 5 (cel (blk b)) (cap * 1)) :: s)) :
    Meets Tryd.prog 35 [.sl 1 (cel b)] s K := by
  have h0 : Meets Tryd.prog 35 [.sl 1 (cel b)] [] (fun r t => ∃ q cap, 64 ≤ cap ∧ cap ≤ maxLen ∧ r = .v (.slice (some ⟨q, 0, none⟩) 64 cap) ∧ t = [(q, .cells 5 (cel (blk b)) (cap * 1))]) := by
    have := meets_run (K := fun r t => ∃ q cap, 64 ≤ cap ∧ cap ≤ maxLen ∧ r = .v (.slice (some ⟨q, 0, none⟩) 64 cap) ∧ t = [(q, .cells 5 (cel (blk b)) (cap * 1))]) (whole_ok1 0 b) (by simp [refsL, refs]) (fun R t ht _ => by
      obtain ⟨q, cap, h1, h2, h3, h4⟩ := whole_end ht
      exact ⟨q, cap, h1, h2, h3, h4⟩)
    simpa [instL, inst, cel_bys] using this
  refine Meets.kn (Meets.frame (s := []) (t := s) (h0.mono ?_))
  rintro r t ⟨q, cap, h1, h2, rfl, rfl⟩
  intro hn
  exact hk q cap (List.nodup_cons.1 hn).1 h1 h2
theorem whole_av_nil (s : Hp) (K : AV → Hp → Prop) (hk : ∀ q cap, q ∉ s.keys → 64 ≤ cap → cap ≤ maxLen → K (.v (.slice (some ⟨q, 0, none⟩) 64 cap)) ((q, .cells 5 (cel (blk [])) (cap * 1)) :: s)) :
    Meets Tryd.prog 35 [.v (.slice none 0 0)] s K := by
  have h0 : Meets Tryd.prog 35 [.v (.slice none 0 0)] [] (fun r t => ∃ q cap, 64 ≤ cap ∧ cap ≤ maxLen ∧ r = .v (.slice (some ⟨q, 0, none⟩) 64 cap) ∧ t = [(q, .cells 5 (cel (blk [])) (cap * 1))]) := by
    have := meets_run (K := fun r t => ∃ q cap, 64 ≤ cap ∧ cap ≤ maxLen ∧ r = .v (.slice (some ⟨q, 0, none⟩) 64 cap) ∧ t = [(q, .cells 5 (cel (blk [])) (cap * 1))]) (whole_nil1 0) (by simp [refsL, refs]) (fun R t ht _ => by
      obtain ⟨q, cap, h1, h2, h3, h4⟩ := whole_end ht
      exact ⟨q, cap, h1, h2, h3, h4⟩)
    simpa [instL, inst] using this
  refine Meets.kn (Meets.frame (s := []) (t := s) (h0.mono ?_))
  rintro r t ⟨q, cap, h1, h2, rfl, rfl⟩
  intro hn
  exact hk q cap (List.nodup_cons.1 hn).1 h1 h2
def optC : Option (List Int) → AV
  | none => .v (.slice none 0 0)
  | some b => .sl 1 (cel b)
theorem optC_one (w : Option (List Int)) : (optC w).one = true := by cases w <;> rfl
theorem optC_cells (w : Option (List Int)) : cellsOf (optC w) = [optC w] := cells_one (optC_one w)
theorem whole_any (o : Option (List Int)) (s : Hp) (K : AV → Hp → Prop) (hk : ∀ q cap, q ∉ s.keys → 64 ≤ cap → cap ≤ maxLen → K (.v (.slice (some ⟨q, 0, none⟩) 64 cap)) ((q, .cells 5 (cel (blk (o.getD []))) (cap * 1)) :: s)) :
    Meets Tryd.prog 35 [optC o] s K := by
  cases o with
  | none => exact whole_av_nil s K hk
  | some b => exact whole_av b s K hk
def pC (w : Int × Option (List Int)) : AV := .agg [.v (.int .i64 w.1), optC w.2]
def lastC (at_ : Int) : List (Int × Option (List Int)) → Option (Option (List Int))
  | [] => none
  | (a, b) :: l => match lastC at_ l with
    | some x => some x
    | none => if a = at_ then some b else none
theorem lastC_take {at_ : Int} : ∀ {ps : List (Int × Option (List Int))} {i : Nat}, (∀ j (h : j < ps.length), i < j → ps[j].1 ≠ at_) → (h : i < ps.length) → ps[i].1 = at_ → lastC at_ ps = some ps[i].2
  | [], i, _, h, _ => by simp at h
  | (a, b) :: l, 0, hn, h, he => by
    have hl : ∀ l : List (Int × Option (List Int)), (∀ x ∈ l, x.1 ≠ at_) → lastC at_ l = none := by
      intro l
      induction l with
      | nil => intro _; rfl
      | cons x l ih =>
        intro hx
        unfold lastC
        rw [ih (fun y hy => hx y (List.mem_cons_of_mem _ hy)), if_neg (hx x List.mem_cons_self)]
    have : lastC at_ l = none := hl l (fun x hx => by
      obtain ⟨j, hj, rfl⟩ := List.mem_iff_getElem.1 hx
      exact hn (j + 1) (by simpa using hj) (by omega))
    have he' : a = at_ := he
    unfold lastC
    rw [this, if_pos he']
    rfl
  | (a, b) :: l, i + 1, hn, h, he => by
    have := lastC_take (ps := l) (i := i) (fun j hj hij => by have := hn (j + 1) (by simpa using hj) (by omega); simpa using this) (by simpa using h) (by simpa using he)
    unfold lastC
    rw [this]
    rfl
theorem lastC_none {at_ : Int} : ∀ {l : List (Int × Option (List Int))}, (∀ x ∈ l, x.1 ≠ at_) → lastC at_ l = none
  | [], _ => rfl
  | x :: l, hx => by
    unfold lastC
    rw [lastC_none (fun y hy => hx y (List.mem_cons_of_mem _ hy)), if_neg (hx x List.mem_cons_self)]
def readC (at_ : Int) (es : List (Int × List Int)) (ps : List (Int × Option (List Int))) : List Int :=
  match lastC at_ ps with
  | some o => blk (o.getD [])
  | none => blk ((Pl.pget es at_).getD [])
def mC (es : List (Int × List Int)) : List (Int × AV) := Pl.gmap (fun b => .sl 1 (cel b)) es
end Go.Proofs.YtddbfjgodbfaoaaDoor.T

namespace Go.Proofs.YtddbfjgodbfaoaaDoor.T
open Go Go.Eng Go.Proofs.YtddbfjgodbfaoaaDoor.Ty
set_option linter.unusedSimpArgs false
set_option linter.unusedVariables false
theorem back_av (xs : List AV) (s : Hp) (K : AV → Hp → Prop) (hk : ∀ p, p ∉ s.keys → K (.v (.func (.func 56) #[] #[.pointer (some ⟨p, 0, none⟩)])) ((p, .cells 62 [.sl 2 xs] 1) :: s)) :
    Meets Tryd.prog 40 [.sl 2 xs] s K := by
  have h0 : Meets Tryd.prog 40 [.sl 2 xs] [] (fun r t => ∃ p, r = .v (.func (.func 56) #[] #[.pointer (some ⟨p, 0, none⟩)]) ∧ t = [(p, .cells 62 [.sl 2 xs] 1)]) := by
    obtain ⟨K', hK'⟩ : ∃ K' : AV → Hp → Prop, K' = (fun r t => ∃ p, r = .v (.func (.func 56) #[] #[.pointer (some ⟨p, 0, none⟩)]) ∧ t = [(p, .cells 62 [.sl 2 xs] 1)]) := ⟨_, rfl⟩
    rw [← hK']
    refine Meets.body Tryd.func40 rfl rfl (by simp [Tryd.ntmps40]) ?_
    repeat' (first | refine AW.seq ?_ | ((first | refine AW.reg (by rfl) ?_ | refine AW.skip ?_ | refine AW.ret ?_ | refine AW.exit ?_); simp only [undef, aops, aop, ev, ofValue, put_some, AThen, entry_get, List.getD_cons_zero, cells_sl, List.length_cons, List.length_nil, List.all_cons, List.all_nil, one_sl, Bool.and_self, true_and, Nat.zero_add, abox, hp_notin_nil, forall_const, Tryd.results40]) | refine AW.block ?_ | with_reducible refine AW.condT rfl ?_ | with_reducible refine AW.condF rfl ?_)
    intro p
    repeat' (first | refine AW.seq ?_ | ((first | refine AW.reg (by rfl) ?_ | refine AW.skip ?_ | refine AW.ret ?_ | refine AW.exit ?_); simp only [aops, aop, ev, put_some, AThen, APost, ares, oneOrTup, upd_get, Nat.reduceEqDiff, ↓reduceIte, List.map_cons, List.map_nil, amakeFunc, flats, Option.map_some]) | refine AW.block ?_ | with_reducible refine AW.condT rfl ?_ | with_reducible refine AW.condF rfl ?_)
    rw [hK']
    exact ⟨p, rfl, rfl⟩
  refine Meets.kn (Meets.frame (s := []) (t := s) (h0.mono ?_))
  rintro r t ⟨p, rfl, rfl⟩
  intro hn
  exact hk p (List.nodup_cons.1 hn).1
theorem read_av (rm at_ : Int) (h : 0 ≤ at_ ∧ at_ ≤ 1073741824) (es : List (Int × List Int)) (ps : List (Int × Option (List Int))) (hlen : ps.length ≤ 1048576) :
    Meets Tryd.prog 18 [.rp (.agg [.v (.int .i64 rm), .mp .i64 (mC es), .sl 2 (ps.map pC)]), .v (.int .i64 at_)] [] (fun r t => ∃ q cap t', 64 ≤ cap ∧ cap ≤ maxLen ∧ r = .tup [.v (.slice (some ⟨q, 0, none⟩) 64 cap), .v .nilIface] ∧ t' = [(q, .cells 5 (cel (readC at_ es ps)) (cap * 1))] ∧ t'.Sublist t) := by
  obtain ⟨K', hK'⟩ : ∃ K' : AV → Hp → Prop, K' = (fun r t => ∃ q cap t', 64 ≤ cap ∧ cap ≤ maxLen ∧ r = .tup [.v (.slice (some ⟨q, 0, none⟩) 64 cap), .v .nilIface] ∧ t' = [(q, .cells 5 (cel (readC at_ es ps)) (cap * 1))] ∧ t'.Sublist t) := ⟨_, rfl⟩
  rw [← hK']
  refine Meets.body Tryd.func18 rfl rfl (by simp [Tryd.ntmps18]) ?_
  repeat' (first | refine AW.seq ?_ | ((first | refine AW.reg (by rfl) ?_ | refine AW.skip ?_ | refine AW.ret ?_ | refine AW.exit ?_); simp only [undef, aops, aop, ev, put_some, AThen, entry_get, List.getD_cons_zero, List.getD_cons_succ, Value.cells, cells_v, List.map_cons, List.map_nil, List.length_cons, List.length_nil, List.all_cons, List.all_nil, one_v, Value.oneCell', Bool.and_self, true_and, and_true, Nat.zero_add, abox, aalloc, ne_eq, List.size_toArray, hp_notin_nil, hp_notin_cons, and_imp, forall_const, zero_38, zero_27, Tryd.results18]) | refine AW.block ?_ | with_reducible refine AW.condT rfl ?_ | with_reducible refine AW.condF rfl ?_)
  intro b3 b4 h43 b5 h54 h53
  repeat' (first | refine AW.seq ?_ | ((first | refine AW.reg (by rfl) ?_ | refine AW.skip ?_ | refine AW.ret ?_ | refine AW.exit ?_); simp only [aops, aop, acall, ev, put_some, AThen, upd_get, Nat.reduceEqDiff, ↓reduceIte, List.map_cons, List.map_nil, List.nil_append, List.append_nil, List.getElem?_cons_zero, aload, aloadG, gndFor, hp_get_cons, agg_3, h43,h53]) | refine AW.block ?_ | with_reducible refine AW.condT rfl ?_ | with_reducible refine AW.condF rfl ?_)
  refine right_av at_ h _ _ ?_
  skip
  repeat' (first | refine AW.seq ?_ | ((first | refine AW.reg (by rfl) ?_ | refine AW.skip ?_ | refine AW.ret ?_ | refine AW.exit ?_); simp only [undef, aops, aop, acall, ev, ofValue, put_some, AThen, upd_get, entry_get, ↓reduceIte, List.getD_cons_zero, List.map_cons, List.map_nil, List.nil_append, List.append_nil, List.getElem?_cons_zero, List.getElem?_cons_succ, true_and, aload, aloadG, gndFor, abin, anil, isNilC, afieldAddr, rpart, reduceCtorEq, Bool.not_true, iface_27, field_64_2, agg_62, rpart]) | refine AW.block ?_ | with_reducible refine AW.condT rfl ?_ | with_reducible refine AW.condF rfl ?_)
  refine ⟨rfl, ?_⟩
  refine back_av _ _ _ ?_
  intro p hp
  simp only [hp_notin_cons, hp_notin_nil, and_true] at hp
  obtain ⟨hp5, hp4, hp3⟩ := hp
  skip
  repeat' (first | refine AW.seq ?_ | refine AW.block ?_ | with_reducible refine AW.condT rfl ?_ | with_reducible refine AW.condF rfl ?_)
  refine AW.gen fun e hE => ?_
  have e0 : e 0 = .rp (.agg [.v (.int .i64 rm), .mp .i64 (mC es), .sl 2 (ps.map pC)]) := hE 0
  have e3 : e 3 = .v (.pointer (some ⟨b3, 0, none⟩)) := hE 3
  have e4 : e 4 = .v (.pointer (some ⟨b4, 0, none⟩)) := hE 4
  have e5 : e 5 = .v (.pointer (some ⟨b5, 0, none⟩)) := hE 5
  have e18 : e 18 = .v (.func (.func 56) #[] #[.pointer (some ⟨p, 0, none⟩)]) := hE 18
  clear hE
  refine AW.rangeFunc 56 #[] #[.pointer (some ⟨p, 0, none⟩)] e18 ⟨_, _, Tryd.func56, rfl, by kernel_rfl⟩ ?_
  intro l rec hl hr1 hr2 hr3 hr4 hr5
  simp only [hp_notin_cons, hp_notin_nil, and_true] at hl
  obtain ⟨hlp, hl5, hl4, hl3⟩ := hl
  refine Meets.nodup fun hnd => ?_
  generalize hQ : RfEnd _ _ _ _ _ _ = K2
  show Meets _ _ [.v (.func (.yield l) #[] #[]), .v (.pointer (some ⟨p, 0, none⟩))] _ _
  refine Meets.body Tryd.func56 rfl rfl (by simp [Tryd.ntmps56]) ?_
  repeat' (first | refine AW.seq ?_ | ((first | refine AW.reg (by rfl) ?_ | refine AW.skip ?_ | refine AW.ret ?_ | refine AW.exit ?_); simp only [undef, aops, aop, acall, ev, ofValue, put_some, AThen, upd_get, entry_get, ↓reduceIte, List.getD_cons_zero, List.getD_cons_succ, List.getElem?_cons_zero, true_and, aload, aloadG, gndFor, abin, aint, alen, hp_get_cons, List.length_map, agg_62, elem_62, Tryd.results56, hlp]) | refine AW.block ?_ | with_reducible refine AW.condT rfl ?_ | with_reducible refine AW.condF rfl ?_)
  have hlen2 : IntKind.i64.wrap ((ps.length : Int) - 1) = (ps.length : Int) - 1 := wrap_i64 (by omega) (by omega)
  obtain ⟨S0, hS0⟩ : ∃ S0 : Hp, S0 = [(p, .cells 62 [.sl 2 (ps.map pC)] 1), (b5, .cells 27 [.v .nilIface] 1), (b4, .cells 38 [.v (.slice none 0 0)] 1), (b3, .cells 3 [.v (.int .i64 at_)] 1)] := ⟨_, rfl⟩
  obtain ⟨H, hH⟩ : ∃ H : Nat → Env → Hp → Prop, H = fun mm e' st => ∃ (i : Nat), i ≤ ps.length ∧ st = (l, .lp rec Tryd.f18.ntmps e) :: S0 ∧ mm = i ∧ e' 0 = .v (.func (.yield l) #[] #[]) ∧ e' 1 = .v (.pointer (some ⟨p, 0, none⟩)) ∧ e' 3 = .v (.int .i64 ((i : Int) - 1)) ∧
      (∀ j (h : j < ps.length), i ≤ j → ps[j].1 ≠ at_) := ⟨_, rfl⟩
  refine (AW.loop H ps.length ?_ ?_)
  · rw [hH, hS0]
    exact ⟨ps.length, Nat.le_refl _, rfl, rfl, rfl, rfl, by simp only [upd_get]; rw [if_pos trivial, hlen2], fun j h hj => absurd hj (by omega)⟩
  intro mm e' st hst
  rw [hH] at hst
  obtain ⟨i, hi, rfl, rfl, f0, f1, f3, hno⟩ := hst
  cases mm with
  | zero =>
    have hge : decide (0 ≤ ((0 : Nat) : Int) - 1) = false := by simp
    repeat' (first | refine AW.seq ?_ | ((first | refine AW.reg (by rfl) ?_ | refine AW.skip ?_ | refine AW.ret ?_ | refine AW.exit ?_); simp only [aops, aop, ev, ofValue, put_some, AThen, ABlock, APost, ares, upd_get, ↓reduceIte, true_and, abin, aint, Int.cast_ofNat_Int, Int.reduceLE, Int.reduceSub, Int.reduceNeg, decide_false, f3]) | refine AW.block ?_ | with_reducible refine AW.condT rfl ?_ | with_reducible refine AW.condF rfl ?_)
    rw [← hQ]
    refine ⟨S0, rec, rfl, by rw [hr1]; simp, ?_⟩
    rw [hr2]
    simp only [ABlock, AThen]
    refine AW.seq ?_
    refine AW.drw 5 rfl rfl rfl ?_
    rw [hS0]
    simp only [undef, aops, aop, acall, ev, ofValue, put_some, put_none, AThen, upd_get, Nat.reduceEqDiff, ↓reduceIte, cells_v, splice, List.map_cons, List.map_nil, List.length_cons, List.length_nil, List.take_succ_cons, List.take_zero, List.drop_succ_cons, List.drop_zero, List.nil_append, List.cons_append, List.append_nil, List.getElem?_cons_zero, List.getElem?_cons_succ, List.all_cons, List.all_nil, one_v, Value.oneCell', Bool.and_self, true_and, and_true, Nat.zero_add, aload, aloadG, gndFor, gndL, astore, afieldAddr, rpart, alookup, Option.map_some, hp_get_cons, hp_notin_nil, hp_get_out, Bool.false_eq_true, qops, qop, exists_eq_left', and_assoc, exists_and_left, agg_3, zero_38, agg_38, agg_27, field_64_1, agg_61, map_61, e0, e3, e4, e5, rpart, h43, h53, hp3]
    refine ⟨rfl, ?_⟩
    have hmg : Eng.mget (mC es) at_ = (Pl.pget es at_).map (fun b => .sl 1 (cel b)) := Pl.mget_gmap _ _ _
    have hlast : lastC at_ ps = none := lastC_none (fun x hx => by
      obtain ⟨j, hj, rfl⟩ := List.mem_iff_getElem.1 hx
      exact hno j hj (Nat.zero_le _))
    have fin : ∀ (b : List Int), (Pl.pget es at_).getD [] = b → ∀ (q cap : Nat) (t : Hp), 64 ≤ cap → cap ≤ maxLen → [(q, AObj.cells 5 (cel (Mac.blk b)) (cap * 1))].Sublist t → K' (.tup [.v (.slice (some ⟨q, 0, none⟩) 64 cap), .v .nilIface]) t := by
      intro b hb q cap t h1 h2 h3
      rw [hK']
      refine ⟨q, cap, _, h1, h2, rfl, rfl, ?_⟩
      unfold readC
      rw [hlast]
      simp only [hb]
      exact h3
    rw [hmg]
    cases hpg : Pl.pget es at_ with
    | none =>
      simp only [Option.map_none]
      refine whole_av_nil _ _ ?_
      intro q cap hq h64 hmx
      simp only [hp_notin_cons, hp_notin_nil, and_true] at hq
      obtain ⟨hqp, hq5, hq4, hq3⟩ := hq
      try simp only [↓reduceIte, cells_v, List.length_cons, List.length_nil, List.drop_succ_cons, List.drop_nil, List.append_nil, List.all_cons, List.all_nil, one_v, Value.oneCell', Bool.and_self, true_and, and_true, Nat.zero_add, Nat.le_refl, ne_eq, not_false_eq_true, hp_get_cons, hp_notin_nil, hp_notin_cons, hp_set_out, hp_set_cons, Nat.mul_one, h43,h54,h53,hp5,hp4,hq5,hq4]
      repeat' (first | refine AW.seq ?_ | ((first | refine AW.reg (by rfl) ?_ | refine AW.skip ?_ | refine AW.ret ?_ | refine AW.exit ?_); simp only [APost, ares, oneOrTup, upd_get, Nat.reduceEqDiff, ↓reduceIte, List.getElem?_cons_zero, aload, hp_get_cons, agg_38, agg_27, e4,e5,h54,hp5,hp4,hq5,hq4]) | refine AW.block ?_ | with_reducible refine AW.condT rfl ?_ | with_reducible refine AW.condF rfl ?_)
      refine fin [] (by rw [hpg]; rfl) q cap _ h64 hmx ?_
      rw [Nat.mul_one]
      exact .cons_cons _ (List.nil_sublist _)
    | some bb =>
      simp only [Option.map_some]
      refine whole_av bb _ _ ?_
      intro q cap hq h64 hmx
      simp only [hp_notin_cons, hp_notin_nil, and_true] at hq
      obtain ⟨hqp, hq5, hq4, hq3⟩ := hq
      try simp only [↓reduceIte, cells_v, List.length_cons, List.length_nil, List.drop_succ_cons, List.drop_nil, List.append_nil, List.all_cons, List.all_nil, one_v, Value.oneCell', Bool.and_self, true_and, and_true, Nat.zero_add, Nat.le_refl, ne_eq, not_false_eq_true, hp_get_cons, hp_notin_nil, hp_notin_cons, hp_set_out, hp_set_cons, Nat.mul_one, h43,h54,h53,hp5,hp4,hq5,hq4]
      repeat' (first | refine AW.seq ?_ | ((first | refine AW.reg (by rfl) ?_ | refine AW.skip ?_ | refine AW.ret ?_ | refine AW.exit ?_); simp only [APost, ares, oneOrTup, upd_get, Nat.reduceEqDiff, ↓reduceIte, List.getElem?_cons_zero, aload, hp_get_cons, agg_38, agg_27, e4,e5,h54,hp5,hp4,hq5,hq4]) | refine AW.block ?_ | with_reducible refine AW.condT rfl ?_ | with_reducible refine AW.condF rfl ?_)
      refine fin bb (by rw [hpg]; rfl) q cap _ h64 hmx ?_
      rw [Nat.mul_one]
      exact .cons_cons _ (List.nil_sublist _)
  | succ i =>
    have hge : decide (0 ≤ ((i + 1 : Nat) : Int) - 1) = true := by simp
    refine AW.seq ?_
    refine AW.seq ?_
    refine AW.reg (by rfl) ?_
    simp only [aops, aop, ev, ofValue, put_some, AThen, upd_get, ↓reduceIte, true_and, abin, aint, f3]
    refine AW.condT (by simp only [ev, upd_get, if_true]; rw [hge]) ?_
    refine AW.skip ?_
    simp only [AThen]
    refine AW.seq ?_
    refine AW.block ?_
    refine AW.seq ?_
    refine AW.yield 6 (by rfl) ?_
    have hlt : i < ps.length := by omega
    have hidx : (((i + 1 : Nat) : Int) - 1).toNat = i := by omega
    have hat : (ps.map pC).getD i default = .agg [.v (.int .i64 ps[i].1), optC ps[i].2] := by rw [List.getD_eq_getElem?_getD, List.getElem?_map, List.getElem?_eq_getElem hlt]; rfl
    rw [hS0]
    simp only [ayield, List.take, List.drop, aops, aop, ev, put_some, AThen, upd_get, Nat.reduceEqDiff, ↓reduceIte, List.map_cons, List.map_nil, List.length_cons, List.length_nil, List.getElem?_cons_zero, List.getElem?_cons_succ, true_and, Nat.reduceAdd, Nat.zero_add, aload, aloadG, gndFor, aun, aindexAddr, Int.reduceNeg, hp_get_cons, reduceCtorEq, List.length_map, and_assoc, agg_62, elem_62, agg_90, f0, f1, f3, hlp, hidx, hat]
    refine ⟨by omega, by omega, l, rfl, ?_⟩
    refine YieldS.of hr1 hr2 (by rw [hr3]; rfl) (by rw [hr3]; simp [Tryd.ntmps18]) ?_
    rw [hr4, hr3, hr5]
    simp only [putAll]
    repeat' (first | refine AW.seq ?_ | ((first | refine AW.reg (by rfl) ?_ | refine AW.skip ?_ | refine AW.ret ?_ | refine AW.exit ?_); simp only [undef, aops, aop, ev, put_some, put_none, upd_get, Nat.reduceEqDiff, ↓reduceIte, Value.cells, cells_agg, splice, List.map_cons, List.map_nil, List.length_cons, List.length_nil, List.take_zero, List.drop_succ_cons, List.drop_nil, List.nil_append, List.append_nil, List.all_cons, List.all_nil, one_v, Value.oneCell', Bool.and_self, true_and, and_true, Nat.reduceAdd, Nat.zero_add, Nat.le_refl, astore, aalloc, ne_eq, List.size_toArray, Int.reduceNeg, Option.map_some, hp_get_cons, hp_notin_nil, hp_notin_cons, hp_set_out, and_imp, hp_set_cons, zero_90, agg_90, optC_one]) | refine AW.block ?_ | with_reducible refine AW.condT rfl ?_ | with_reducible refine AW.condF rfl ?_)
    intro b8 h8p h85 h84 h83
    by_cases he : ps[i].1 = at_
    · have hd : (ps[i].1 == at_) = true := by simpa using he
      have hd2 : decide (ps[i].1 = at_) = true := by simpa using he
      repeat' (first | refine AW.seq ?_ | ((first | refine AW.reg (by rfl) ?_ | refine AW.skip ?_ | refine AW.ret ?_ | refine AW.exit ?_); simp only [undef, aops, aop, acall, ev, ofValue, put_some, put_none, AThen, upd_get, Nat.reduceEqDiff, ↓reduceIte, cells_v, splice, List.map_cons, List.map_nil, List.length_cons, List.length_nil, List.take_zero, List.nil_append, List.cons_append, List.append_nil, List.getElem?_cons_zero, List.getElem?_cons_succ, List.all_cons, List.all_nil, one_v, Value.oneCell', Bool.and_self, true_and, Nat.zero_add, Nat.add_zero, aload, aloadG, gndFor, astore, abin, aint, afieldAddr, Int.reduceNeg, Option.map_some, hp_get_cons, agg_3, agg_38, agg_27, field_90_0, field_90_1, e3,e4,e5,h43,h53,hp3,h83,Ne.symm h8p,Ne.symm h85,Ne.symm h84,Ne.symm h83,hd2]) | refine AW.block ?_ | with_reducible refine AW.condT rfl ?_ | with_reducible refine AW.condF rfl ?_)
      refine whole_any _ _ _ ?_
      intro q cap hq h64 hmx
      simp only [hp_notin_cons, hp_notin_nil, and_true] at hq
      obtain ⟨hq8, hqp, hq5, hq4, hq3⟩ := hq
      try simp only [↓reduceIte, cells_v, List.length_cons, List.length_nil, List.drop_succ_cons, List.drop_nil, List.append_nil, List.all_cons, List.all_nil, one_v, Value.oneCell', Bool.and_self, true_and, and_true, Nat.zero_add, Nat.le_refl, ne_eq, not_false_eq_true, Int.reduceNeg, hp_get_cons, hp_notin_nil, hp_notin_cons, hp_set_out, hp_set_cons, Nat.mul_one, h43,h54,h53,hp5,hp4,h85,h84,hq5,hq4]
      repeat' (first | refine AW.seq ?_ | ((first | refine AW.reg (by rfl) ?_ | refine AW.skip ?_ | refine AW.ret ?_ | refine AW.exit ?_); simp only [ABlock, Int.reduceNeg]) | refine AW.block ?_ | with_reducible refine AW.condT rfl ?_ | with_reducible refine AW.condF rfl ?_)
      simp only [YEnd]
      try simp only [Bool.not_false]
      repeat' (first | refine AW.seq ?_ | ((first | refine AW.reg (by rfl) ?_ | refine AW.skip ?_ | refine AW.ret ?_ | refine AW.exit ?_); simp only [AThen, ABlock, APost, ares]) | refine AW.block ?_ | with_reducible refine AW.condT rfl ?_ | with_reducible refine AW.condF rfl ?_)
      rw [← hQ]
      refine ⟨_, _, rfl, by simp, ?_⟩
      simp only
      repeat' (first | refine AW.seq ?_ | ((first | refine AW.reg (by rfl) ?_ | refine AW.skip ?_ | refine AW.ret ?_ | refine AW.exit ?_); simp only [AThen, ABlock, APost, ares, oneOrTup, ↓reduceIte, List.getElem?_cons_zero, aload, hp_get_cons, agg_38, agg_27, e4,e5,h54,hp5,hp4,h85,h84,hq5,hq4]) | refine AW.block ?_ | with_reducible refine AW.condT rfl ?_ | with_reducible refine AW.condF rfl ?_)
      rw [hK']
      refine ⟨q, cap, _, h64, hmx, rfl, rfl, ?_⟩
      have : readC at_ es ps = Mac.blk (ps[i].2.getD []) := by
        unfold readC
        rw [lastC_take (fun j hj hij => hno j hj (by omega)) hlt he]
      rw [this, Nat.mul_one]
      exact .cons_cons _ (List.nil_sublist _)
    · have hd : (ps[i].1 == at_) = false := by simpa using he
      have hd2 : decide (ps[i].1 = at_) = false := by simpa using he
      repeat' (first | refine AW.seq ?_ | ((first | refine AW.reg (by rfl) ?_ | refine AW.skip ?_ | refine AW.ret ?_ | refine AW.exit ?_); simp only [aops, aop, ev, put_some, AThen, ABlock, upd_get, Nat.reduceEqDiff, ↓reduceIte, List.getElem?_cons_zero, true_and, Nat.add_zero, aload, aloadG, gndFor, abin, aint, afieldAddr, Int.reduceNeg, hp_get_cons, agg_3, field_90_0, e3,h43,h53,hp3,h83,Ne.symm h8p,Ne.symm h85,Ne.symm h84,Ne.symm h83,hd2]) | refine AW.block ?_ | with_reducible refine AW.condT rfl ?_ | with_reducible refine AW.condF rfl ?_)
      simp only [YEnd]
      try simp only [Bool.not_true]
      repeat' (first | refine AW.seq ?_ | ((first | refine AW.reg (by rfl) ?_ | refine AW.skip ?_ | refine AW.ret ?_ | refine AW.exit ?_); simp only [aops, aop, ev, ofValue, put_some, AThen, ABlock, upd_get, Nat.reduceEqDiff, ↓reduceIte, true_and, abin, aint, f3]) | refine AW.block ?_ | with_reducible refine AW.condT rfl ?_ | with_reducible refine AW.condF rfl ?_)
      rw [hH]
      refine ⟨i, _, by omega, ?_, ?_, i, by omega, by rw [hS0], rfl, ?_, ?_, ?_, fun j hj hij => ?_⟩
      · intro x hx
        simp only [List.mem_cons, List.not_mem_nil, or_false] at hx ⊢
        rcases hx with rfl | rfl | rfl | rfl | rfl <;> simp
      · exact hnd
      · simp [upd_get, f0]
      · simp [upd_get, f1]
      · simp only [upd_get, if_true]
        have : IntKind.i64.wrap (((i + 1 : Nat) : Int) - 1 - 1) = (i : Int) - 1 := by rw [wrap_i64 (by omega) (by omega)]; omega
        rw [this]
      · rcases Nat.lt_or_ge i j with h1 | h1
        · exact hno j hj (by omega)
        · have : j = i := by omega
          subst this; exact he
theorem read_err (rm at_ : Int) (h : at_ < 0 ∨ 1073741824 < at_) (x y : AV) (hy : y.isAgg = false) :
    Meets Tryd.prog 18 [.rp (.agg [.v (.int .i64 rm), x, y]), .v (.int .i64 at_)] [] (fun r t => r = .tup [.v (.slice none 0 0), .ifc 95 (.agg [.v (.string ⟨#[98,108,111,99,107]⟩), .v (.int .i64 at_), .v (.iface 31 (.int .i64 2))])]) := by
  obtain ⟨K', hK'⟩ : ∃ K' : AV → Hp → Prop, K' = (fun r t => r = .tup [.v (.slice none 0 0), .ifc 95 (.agg [.v (.string ⟨#[98,108,111,99,107]⟩), .v (.int .i64 at_), .v (.iface 31 (.int .i64 2))])]) := ⟨_, rfl⟩
  rw [← hK']
  refine Meets.body Tryd.func18 rfl rfl (by simp [Tryd.ntmps18]) ?_
  repeat' (first | refine AW.seq ?_ | ((first | refine AW.reg (by rfl) ?_ | refine AW.skip ?_ | refine AW.ret ?_ | refine AW.exit ?_); simp only [undef, aops, aop, ev, put_some, AThen, entry_get, List.getD_cons_zero, List.getD_cons_succ, Value.cells, cells_v, List.map_cons, List.map_nil, List.length_cons, List.length_nil, List.all_cons, List.all_nil, one_v, Value.oneCell', Bool.and_self, true_and, and_true, Nat.zero_add, abox, aalloc, ne_eq, List.size_toArray, hp_notin_nil, hp_notin_cons, and_imp, forall_const, zero_38, zero_27, Tryd.results18]) | refine AW.block ?_ | with_reducible refine AW.condT rfl ?_ | with_reducible refine AW.condF rfl ?_)
  intro b3 b4 h43 b5 h54 h53
  repeat' (first | refine AW.seq ?_ | ((first | refine AW.reg (by rfl) ?_ | refine AW.skip ?_ | refine AW.ret ?_ | refine AW.exit ?_); simp only [aops, aop, acall, ev, put_some, AThen, upd_get, Nat.reduceEqDiff, ↓reduceIte, List.map_cons, List.map_nil, List.nil_append, List.append_nil, List.getElem?_cons_zero, aload, aloadG, gndFor, hp_get_cons, agg_3, h43,h53]) | refine AW.block ?_ | with_reducible refine AW.condT rfl ?_ | with_reducible refine AW.condF rfl ?_)
  refine right_av_no at_ h _ _ ?_
  skip
  repeat' (first | refine AW.seq ?_ | ((first | refine AW.reg (by rfl) ?_ | refine AW.skip ?_ | refine AW.ret ?_ | refine AW.exit ?_); simp only [undef, aops, aop, ev, ofValue, put_some, put_none, AThen, APost, ares, oneOrTup, upd_get, Nat.reduceEqDiff, ↓reduceIte, cells_v, cells_ifc, splice, List.length_cons, List.length_nil, List.take_zero, List.drop_succ_cons, List.drop_nil, List.nil_append, List.append_nil, List.getElem?_cons_zero, List.all_cons, List.all_nil, one_v, one_ifc, Value.oneCell', Bool.and_self, true_and, and_true, Nat.zero_add, Nat.le_refl, aload, astore, abin, anil, isNilC, ne_eq, not_false_eq_true, Option.map_some, hp_get_cons, hp_notin_nil, hp_notin_cons, hp_set_out, hp_set_cons, Bool.not_false, iface_27, agg_38, agg_27, h43,h54,h53]) | refine AW.block ?_ | with_reducible refine AW.condT rfl ?_ | with_reducible refine AW.condF rfl ?_)
  rw [hK']
end Go.Proofs.YtddbfjgodbfaoaaDoor.T

namespace Go.Mac
open Go Go.Eng Go.Pl Go.Proofs Go.Proofs.YtddbfjgodbfaoaaDoor.T
set_option linter.unusedVariables false
set_option linter.unusedSimpArgs false
theorem u8s : ∀ {xs : List LV}, xs.all isU8 = true → ∃ b : List Int, xs = bys b
  | [], _ => ⟨[], rfl⟩
  | x :: xs, h => by
    simp only [List.all_cons, Bool.and_eq_true] at h
    obtain ⟨b, rfl⟩ := u8s h.2
    cases x with
    | int k n =>
      cases k <;> simp [isU8] at h
      exact ⟨n :: b, rfl⟩
    | _ => simp [isU8] at h
theorem pend_told (R : Inst) (at_ : Int) : ∀ {ps : List LV}, ps.all okW = true → ∃ pc : List (Int × Option (List Int)), instL R false ps = pc.map pC ∧ ps.map (toP R) = pc.map (fun x => (x.1, x.2.map cel)) ∧
    lastOf at_ ps = (lastC at_ pc).map (fun o => match o with | some b => LV.isl 1 (bys b) | none => .nils)
  | [], _ => ⟨[], by simp [instL], rfl, rfl⟩
  | x :: ps, h => by
    simp only [List.all_cons, Bool.and_eq_true] at h
    obtain ⟨pc, h1, h2, h3⟩ := pend_told R at_ h.2
    have hx := h.1
    unfold okW at hx
    split at hx
    · rename_i a
      refine ⟨(a, none) :: pc, ?_, ?_, ?_⟩
      · simp only [instL, List.map_cons, h1]
        simp [pC, optC, inst, instL]
      · simp [h2, toP]
      · simp only [lastOf, lastC, h3]
        cases lastC at_ pc with
        | some o => simp
        | none =>
          simp only [Option.map_none]
          split <;> simp
    · rename_i a y ys
      obtain ⟨b, hb⟩ := u8s hx
      refine ⟨(a, some b) :: pc, ?_, ?_, ?_⟩
      · simp only [instL, List.map_cons, h1]
        simp only [pC, optC, inst, instL]
        have : inst R false y :: instL R false ys = cel b := by
          rw [← cel_bys R false b, ← hb]; simp only [instL]
        rw [this]
      · simp only [List.map_cons, h2]
        simp only [toP, Option.map_some]
        rw [hb, cel_bys]
      · simp only [lastOf, lastC, h3]
        cases lastC at_ pc with
        | some o => simp
        | none =>
          simp only [Option.map_none]
          split
          · simp [hb]
          · simp
    · simp at hx
theorem blk_pad (b : List Int) : (b ++ List.replicate 64 0).take 64 = blk b := by
  unfold blk spliceI
  rcases Nat.lt_or_ge b.length 64 with h | h
  · rw [Nat.min_eq_left (by omega), List.take_of_length_le (Nat.le_refl _), List.take_append, List.take_of_length_le (by omega), List.take_replicate, List.take_zero, List.nil_append, Nat.zero_add, List.drop_replicate, Nat.min_eq_left (by omega)]
  · rw [Nat.min_eq_right h, List.take_append_of_le_length h, List.take_zero, List.nil_append, Nat.zero_add, List.length_take, Nat.min_eq_left h, List.drop_replicate]
    simp
theorem pad_isl (b : List Int) : pad64 (.isl 1 (bys b)) = .isl 1 (bys (blk b)) := by
  rw [← blk_pad]
  simp [pad64, bys]
theorem pad_nils : pad64 .nils = .isl 1 (bys (blk [])) := by
  rw [← blk_pad]
  simp [pad64, bys]
theorem map_told (R : Inst) : ∀ (es : List (Int × AV)), (∀ p ∈ es, ∃ b, p.2 = .sl 1 (cel b)) → ∃ ec, es = mC ec
  | [], _ => ⟨[], rfl⟩
  | p :: es, h => by
    obtain ⟨ec, rfl⟩ := map_told R es (fun q hq => h q (List.mem_cons_of_mem _ hq))
    obtain ⟨b, hb⟩ := h p List.mem_cons_self
    refine ⟨(p.1, b) :: ec, ?_⟩
    obtain ⟨k, u⟩ := p
    simp only at hb
    subst hb
    rfl
theorem cel_inj : ∀ {a b : List Int}, cel a = cel b → a = b
  | [], [], _ => rfl
  | [], _ :: _, h => by simp [cel] at h
  | _ :: _, [], h => by simp [cel] at h
  | x :: a, y :: b, h => by
    simp only [cel, List.map_cons, List.cons.injEq] at h
    obtain ⟨h1, h2⟩ := h
    injection h1 with h1
    injection h1 with _ h1
    rw [h1, cel_inj (show cel a = cel b from h2)]
theorem kget_told {R : Inst} {ks : List Int} {vs : List LV} {ec : List (Int × List Int)} (hm : MapOk R (ks.zip vs) (mC ec)) (hv : vs.all okBs = true) (n : Int) : kget (ks.zip vs) n = (pget ec n).map fun b => LV.isl 1 (bys b) := by
  have h1 := hm.get n
  have h2 : Eng.mget (mC ec) n = (pget ec n).map (fun b => .sl 1 (cel b)) := mget_gmap _ _ _
  rw [h2] at h1
  cases hp : pget ec n with
  | none =>
    rw [hp] at h1
    cases hk : kget (ks.zip vs) n with
    | none => rfl
    | some x => rw [hk] at h1; simp at h1
  | some b =>
    rw [hp] at h1
    cases hk : kget (ks.zip vs) n with
    | none => rw [hk] at h1; simp at h1
    | some x =>
      rw [hk] at h1
      have hx : x ∈ vs := by
        have hmem : n ∈ (ks.zip vs).map (·.1) := by
          apply Classical.byContradiction
          intro hc
          rw [kget_none hc] at hk; simp at hk
        obtain ⟨y, hy1, hy2⟩ := kget_some hmem
        rw [hk] at hy1
        injection hy1 with hy1
        subst hy1
        exact (List.of_mem_zip hy2).2
      have ho := List.all_eq_true.1 hv x hx
      unfold okBs at ho
      split at ho
      · rename_i xs
        obtain ⟨b', rfl⟩ := u8s ho
        have : cel b = cel b' := by simpa [inst, cel_bys] using h1
        rw [cel_inj this]; rfl
      · simp at ho
theorem lm_read {as_ : List LV} {st st' : St} {v : LV} (h : xRead as_ st = some (v, st')) : LMeets Tryd.prog 18 as_ st v st' := by
  unfold xRead at h
  split at h
  case h_2 => simp at h
  rename_i b at_
  split at h
  case h_2 => simp at h
  rename_i e r ks vs el n ps hl
  split at h
  case isFalse => simp at h
  rename_i hc
  obtain ⟨he, hel, hn, hok, hlen, hvs⟩ := hc
  subst hel; subst hn
  intro R s hs hr
  obtain ⟨t1, t2, hob, _, hperm, _⟩ := hs.ents.focus hl
  obtain ⟨q, es, u3, s3, rfl, hm, h3⟩ := disk_lies hob
  have hb := disk_bor (b := b) (e := e) (r := r) (es := es) (q := q) hok h3
  have harg : ∀ I w xs, Rel I ((R.ρ b, .cells e [.v (.int .i64 r), .v (.map (some q)), u3] 3) :: (q, .imap .i64 es) :: s3) w → RVs I xs (instL R true [.ptr b 0, .int .i64 at_]) →
      RVs (I.with ((R.ρ b, .cells e [.v (.int .i64 r), .v (.map (some q)), u3] 3) :: (q, .imap .i64 es) :: s3) w) xs [.rp (.agg [.v (.int .i64 r), .mp .i64 es, .sl 2 ((ps.map (toP R)).map pAV)]), .v (.int .i64 at_)] := by
    intro I w xs hrel ha
    have ha' : RVs I xs (.v (.pointer (some ⟨R.ρ b, 0, none⟩)) :: [.v (.int .i64 at_)]) := by simpa [instL, inst] using ha
    exact rvs_box (vs := [.v (.int .i64 r), .mp .i64 es, .sl 2 ((ps.map (toP R)).map pAV)]) List.mem_cons_self (us := [.v (.int .i64 r), .v (.map (some q)), u3]) (by simp) hb hrel ha'
  split at h
  · -- out of range
    rename_i hat
    simp only [Option.some.injEq, Prod.mk.injEq] at h
    obtain ⟨rfl, rfl⟩ := h
    refine Meets.use _ t2 hperm.symm ?_
    refine Meets.borrow2 harg ((read_err r at_ hat _ _ rfl).mono ?_)
    rintro rr t rfl
    refine ⟨[], by simp, by simp [Hp.keys], rfl, by simp, ?_⟩
    refine ⟨R, s, Agree.refl _ _, Nat.le_refl _, ?_, ?_, HpWk.perm hperm.symm, hs⟩
    · simp only [inst, instL, mkIfc]
      exact Wk.refl _
    · simp [refs, refsL]
  · rename_i hat
    have hat2 : 0 ≤ at_ ∧ at_ ≤ 1073741824 := by omega
    obtain ⟨pc, hp1, hp2, hp3⟩ := pend_told R at_ hok
    obtain ⟨ec, rfl⟩ := map_told R es (fun p hp => by
      have := hm.perm.mem_iff.1 hp
      obtain ⟨y, hy, rfl⟩ := List.mem_map.1 this
      have hyv := (List.of_mem_zip (show (y.1, y.2) ∈ ks.zip vs from hy)).2
      have ho := List.all_eq_true.1 hvs _ hyv
      unfold okBs at ho
      split at ho
      · rename_i xs hxs
        obtain ⟨b', rfl⟩ := u8s ho
        refine ⟨b', ?_⟩
        simp only [hxs, inst, cel_bys]
      · simp at ho)
    have hpc : (ps.map (toP R)).map pAV = pc.map pC := by
      rw [hp2, List.map_map]
      apply List.map_congr_left
      rintro ⟨a, o⟩ _
      cases o <;> rfl
    have hkt := kget_told hm hvs at_
    -- what is read
    have hres : v = .tup [.isl 1 (bys (readC at_ ec pc)), .nili] ∧ st' = st := by
      rw [hp3, hkt] at h
      unfold readC
      cases hlc : lastC at_ pc with
      | some o =>
        rw [hlc] at h
        cases o with
        | some b' =>
          simp only [Option.map_some, pad_isl, Option.some.injEq, Prod.mk.injEq] at h
          exact ⟨h.1.symm, h.2.symm⟩
        | none =>
          simp only [Option.map_some, pad_nils, Option.some.injEq, Prod.mk.injEq] at h
          exact ⟨h.1.symm, h.2.symm⟩
      | none =>
        rw [hlc] at h
        simp only [Option.map_none] at h
        cases hpg : pget ec at_ with
        | some b' =>
          rw [hpg] at h
          simp only [Option.map_some, pad_isl, Option.some.injEq, Prod.mk.injEq] at h
          exact ⟨h.1.symm, h.2.symm⟩
        | none =>
          rw [hpg] at h
          simp only [Option.map_none, pad_nils, Option.some.injEq, Prod.mk.injEq] at h
          exact ⟨h.1.symm, h.2.symm⟩
    obtain ⟨rfl, rfl⟩ := hres
    refine Meets.froz ?_
    refine Meets.use _ t2 hperm.symm ?_
    rw [hpc] at harg
    have hpl : pc.length ≤ 1048576 := by
      have := congrArg List.length hp1
      rw [instL_eq, List.length_map, List.length_map] at this
      omega
    refine Meets.borrow2 harg ((read_av r at_ hat2 ec pc hpl).mono ?_)
    rintro rr t ⟨q', cap, t', h64, hmx, rfl, rfl, hsub⟩
    refine ⟨[(q', .cells 5 (cel (readC at_ ec pc)) (cap * 1))], fun p hp => hsub.subset hp, fun _ => by simp [Hp.keys], rfl, ?_, ?_⟩
    · intro p hp
      simp only [List.mem_singleton] at hp
      subst hp
      simp only [AObj.plain, List.all_eq_true]
      intro x hx
      unfold cel at hx
      obtain ⟨y, _, rfl⟩ := List.mem_map.1 hx
      rfl
    · intro hn
      have hlenr : (readC at_ ec pc).length = 64 := by
        unfold readC
        split <;> exact blk_length _
      have hkn : q' ∉ Hp.keys (((R.ρ b, AObj.cells e [.v (.int .i64 r), .v (.map (some q)), u3] 3) :: (q, .imap .i64 (mC ec)) :: s3) ++ t2) := (List.nodup_cons.1 hn).1
      refine ⟨[(q', .cells 5 (cel (readC at_ ec pc)) (cap * 1))], .tup [.sl 1 (cel (readC at_ ec pc)), .v .nilIface], _, fun p hp => by
        simp only [List.mem_singleton] at hp; subst hp; simp, ?_, .drop _ (.rest (fun k hk => by
          simp only [Hp.keys, List.map_cons, List.map_nil, List.mem_singleton]
          intro e; subst e; exact hkn hk)), ?_⟩
      · refine BorL.tup (.cons ?_ (.refl _ _))
        refine .row q' 0 64 cap 1 (cap * 1) 5 (cel (readC at_ ec pc)) (cel (readC at_ ec pc)) (by simp) ?_ h64 (by unfold big; omega) ?_ ?_
        · unfold cel; rw [List.length_map, hlenr]
        · intro i x hx
          unfold cel at hx
          rw [List.getElem?_map] at hx
          obtain ⟨y, _, rfl⟩ := Option.map_eq_some_iff.1 hx
          rfl
        · rw [cel_flat, List.drop_zero, List.take_of_length_le]
          unfold cel; rw [List.length_map, hlenr]; omega
      · refine ⟨R, s, Agree.refl _ _, Nat.le_refl _, ?_, by simp [refs, refsL], HpWk.perm hperm.symm, hs⟩
        simp only [inst, instL, cel_bys]
        exact Wk.refl _
end Go.Mac

namespace Go.Mac
open Go Go.Eng Go.Proofs
theorem extC0 : ExtSound Tryd.prog C0 := by
  intro f F h as_ st v st' hF
  simp only [C0] at h
  split at h
  · rename_i hf; subst hf; injection h with h; subst h; exact lm_mclone hF
  split at h
  · rename_i hf; subst hf; injection h with h; subst h; exact lm_needs hF
  split at h
  · rename_i hf; subst hf; injection h with h; subst h; exact lm_is hF
  split at h
  · rename_i hf; subst hf; injection h with h; subst h; exact lm_read hF
  split at h
  · rename_i hf; subst hf; injection h with h; subst h; exact lm_sorted hF
  split at h
  · rename_i hf; subst hf; injection h with h; subst h; exact lm_as hF
  · simp at h
end Go.Mac

namespace Go.Mac
open Go Go.Eng Go.Proofs Go.Proofs.YtddbfjgodbfaoaaDoor
set_option linter.unusedVariables false
theorem map_of {α : Type} {f : α → LV} {G : LV → Prop} (hG : ∀ x, G x → ∃ n, x = f n) : ∀ {xs : List LV}, (∀ x ∈ xs, G x) → ∃ l : List α, xs = l.map f
  | [], _ => ⟨[], rfl⟩
  | x :: xs, h => by
    obtain ⟨n, hn⟩ := hG x (h x (by simp))
    obtain ⟨l, hl⟩ := map_of hG (xs := xs) fun y hy => h y (by simp [hy])
    exact ⟨n :: l, by rw [hn, hl]; rfl⟩
def isBys (v : LV) : Prop := ∃ b : List Int, v = .isl 1 (bys b)
def isInts (v : LV) : Prop := ∃ b : List Int, v = .isl 1 (ints b)
theorem Rd.mono {H : Type} {enc : TypeId × Value → H} {P : Program} {R : Inst} {w : World} {t : TypeId} {G G' : LV → Prop} (h : Rd enc P R w t G) (hG : ∀ v, G v → G' v) : Rd enc P R w t G' := by
  intro base sp hd fuel cs x h1 h2
  obtain ⟨v, g, r⟩ := h base sp hd fuel cs x h1 h2
  exact ⟨v, hG v g, r⟩
section
variable {H : Type} {enc : TypeId × Value → H} {P : Program} {R : Inst} {w : World}
theorem Rd.bys {t e : TypeId} (ht : P.underlying t = some (.slice e)) (he : P.underlying e = some (.int .u8)) (hk : P.cellsOf e = 1) (hb : 0 < P.bytesOf e) : Rd enc P R w t isBys :=
  (Rd.slice ht hk (by omega) hb (Rd.int he) (by rintro v ⟨n, rfl, _⟩; rfl)).mono (by
    rintro v ⟨xs, rfl, h, _⟩
    obtain ⟨l, rfl⟩ := map_of (f := LV.int .u8) (by rintro x ⟨n, rfl, _⟩; exact ⟨n, rfl⟩) h
    exact ⟨l, rfl⟩)
theorem Rd.ints {t e : TypeId} (ht : P.underlying t = some (.slice e)) (he : P.underlying e = some (.int .i64)) (hk : P.cellsOf e = 1) (hb : 0 < P.bytesOf e) : Rd enc P R w t isInts :=
  (Rd.slice ht hk (by omega) hb (Rd.int he) (by rintro v ⟨n, rfl, _⟩; rfl)).mono (by
    rintro v ⟨xs, rfl, h, _⟩
    obtain ⟨l, rfl⟩ := map_of (f := LV.int .i64) (by rintro x ⟨n, rfl, _⟩; exact ⟨n, rfl⟩) h
    exact ⟨l, rfl⟩)
end
theorem own_seat : ownKnob Tryd.prog.godebug = none := by kernel_rfl
theorem laid_seat : laidOutB Tryd.prog = true := by kernel_rfl
theorem mixed_seat : Tryd.prog.follows .mixedOrders = true := by kernel_rfl
def isInt (k : IntKind) (v : LV) : Prop := ∃ n, v = .int k n
theorem Rd.i {H : Type} {enc : TypeId × Value → H} {P : Program} {R : Inst} {w : World} {t : TypeId} {k : IntKind} (ht : P.underlying t = some (.int k)) : Rd enc P R w t (isInt k) := (Rd.int ht).mono (by rintro v ⟨n, rfl, _⟩; exact ⟨n, rfl⟩)
end Go.Mac

namespace Go.Mac
open Go Go.Eng Go.Proofs Go.Proofs.YtddbfjgodbfaoaaDoor Go.ChangeShapes Go.WideShapes Go.RowKit
set_option linter.unusedVariables false
set_option maxRecDepth 100000
theorem et_seat : Tryd.prog.globalNamed "errors.errorType" = some 0 := by kernel_rfl
theorem rt_seat : (Tryd.prog.cutTypes.find? (·.1 == "internal/reflectlite.rtype")).map (·.2) = some 111 := by kernel_rfl
theorem row_seat : ((List.range 189).filter fun t => Tryd.prog.rowNamed t [101, 114, 114, 111, 114]) = [27] := by kernel_rfl
theorem size_seat : Tryd.prog.types.size = 189 := by kernel_rfl
abbrev laidL : List (String × DataW Unit) := [("errors.errorType", Rows.laid_errors_errorType)]
theorem gnd_of_laid {W : World} (h : laidMetH Tryd.prog laidL W) : Gnd (heapI W) := by
  have h' : laidMet Tryd.prog [] W ∧ handlesMet Tryd.prog laidL W := h
  obtain ⟨name, u, ty, e1, e2, e3, e4, e5⟩ := h'.2 _ (List.mem_singleton.2 rfl)
  have en : name = [101, 114, 114, 111, 114] := (Option.some.inj e1).symm
  subst en
  obtain rfl := Option.some.inj (rt_seat.symm.trans e2)
  have hm : ty ∈ (List.range 189).filter fun t => Tryd.prog.rowNamed t [101, 114, 114, 111, 114] := List.mem_filter.2 ⟨List.mem_range.2 (by rw [← size_seat]; exact e3), e4⟩
  rw [row_seat] at hm
  obtain rfl := List.mem_singleton.1 hm
  have hh : typeHandle Tryd.prog 27 = .pointer (some ⟨1, 27, none⟩) := by kernel_rfl
  rw [hh] at e5
  have hc : W.cell? ⟨0, 0, none⟩ = some (.iface 111 (.agg #[.pointer (some ⟨1, 27, none⟩)])) := by simpa using World.var?_cell et_seat e5 0
  intro a x hx
  obtain ⟨rfl, rfl⟩ := Prod.mk.inj (List.mem_singleton.1 hx)
  exact (heapI_cell hc).2
noncomputable def laidWorld (os : Os) : World :=
  let w0 := World.holding Tryd.prog os ⟨#[], #[], []⟩
  { w0 with heap := w0.heap.modify 0 fun
      | .cells _ t frozen => .cells #[.iface 111 (.agg #[.pointer (some ⟨1, 27, none⟩)])] t frozen
      | o => o }
theorem laidWorld_met (os : Os) (args : Array Value) : laidMetH Tryd.prog laidL ((laidWorld os).forCall (fun _ _ => 0) ⟨#[], args, []⟩).memory :=
  laidMetH_of_parts (laidMet_nil _ _) (by kernel_rfl)
def isOps5 (v : LV) : Prop := ∃ l, v = .isl 5 (ops5 l)
def isU8v (v : LV) : Prop := ∃ n, v = .int .u8 n ∧ (Lit.int .u8 n).wf = true
def isU16 (v : LV) : Prop := ∃ n, v = .int .u16 n ∧ (Lit.int .u16 n).wf = true
def isI64 (v : LV) : Prop := ∃ n, v = .int .i64 n ∧ (Lit.int .i64 n).wf = true
theorem u8_wf {n : Int} (h : (Lit.int .u8 n).wf = true) : 0 ≤ n ∧ n ≤ 255 := by
  have e3 : IntKind.u8.min = 0 := rfl
  have e4 : IntKind.u8.max = 255 := rfl
  simp only [Lit.wf, Bool.and_eq_true, decide_eq_true_eq] at h
  omega
theorem u16_wf {n : Int} (h : (Lit.int .u16 n).wf = true) : 0 ≤ n ∧ n ≤ 65535 := by
  have e3 : IntKind.u16.min = 0 := rfl
  have e4 : IntKind.u16.max = 65535 := rfl
  simp only [Lit.wf, Bool.and_eq_true, decide_eq_true_eq] at h
  omega
theorem rd_op5 {H : Type} (enc : TypeId × Value → H) (W : World) : Rd enc Tryd.prog R0 W 41 (fun v => ∃ x, v = op5 x) := by
  have I := Rd.i (enc := enc) (P := Tryd.prog) (R := R0) (w := W) (t := 3) (k := .i64) (by kernel_rfl)
  have B := Rd.bys (enc := enc) (P := Tryd.prog) (R := R0) (w := W) (t := 38) (e := 5) (by kernel_rfl) (by kernel_rfl) (by kernel_rfl) (Nat.le_of_ble_eq_true (by kernel_rfl))
  have N := Rd.ints (enc := enc) (P := Tryd.prog) (R := R0) (w := W) (t := 39) (e := 3) (by kernel_rfl) (by kernel_rfl) (by kernel_rfl) (Nat.le_of_ble_eq_true (by kernel_rfl))
  have hI : ∀ v, isInt .i64 v → lcells v = [v] := by rintro v ⟨n, rfl⟩; rfl
  have hB : ∀ v, isBys v → lcells v = [v] := by rintro v ⟨n, rfl⟩; rfl
  have hN : ∀ v, isInts v → lcells v = [v] := by rintro v ⟨n, rfl⟩; rfl
  refine (Rd.struct1 (Gs := [isInt .i64, isInt .i64, isBys, isInts, isInt .i64]) Tryd.underlying41 (by kernel_rfl) rfl ?_).mono ?_
  · intro i f G hf hG
    match i, hf, hG with
    | 0, hf, hG => cases hf; cases hG; exact ⟨rfl, by kernel_rfl, I, hI⟩
    | 1, hf, hG => cases hf; cases hG; exact ⟨rfl, by kernel_rfl, I, hI⟩
    | 2, hf, hG => cases hf; cases hG; exact ⟨rfl, by kernel_rfl, B, hB⟩
    | 3, hf, hG => cases hf; cases hG; exact ⟨rfl, by kernel_rfl, N, hN⟩
    | 4, hf, hG => cases hf; cases hG; exact ⟨rfl, by kernel_rfl, I, hI⟩
    | i + 5, hf, hG => simp at hG
  · rintro v ⟨vs, rfl, hl, h⟩
    have hl : vs.length = 5 := hl
    match vs, hl with
    | [a, a2, b, c, d], _ =>
      obtain ⟨k, rfl⟩ := h 0 a _ rfl rfl
      obtain ⟨q, rfl⟩ := h 1 a2 _ rfl rfl
      obtain ⟨b, rfl⟩ := h 2 b _ rfl rfl
      obtain ⟨s, rfl⟩ := h 3 c _ rfl rfl
      obtain ⟨u, rfl⟩ := h 4 d _ rfl rfl
      exact ⟨⟨k, q, b, s, u⟩, rfl⟩
theorem rd_ops5 {H : Type} (enc : TypeId × Value → H) (W : World) : Rd enc Tryd.prog R0 W 22 isOps5 := by
  refine (Rd.slice (e := 41) (k := 5) (by kernel_rfl) (by kernel_rfl) (by omega) (Nat.le_of_ble_eq_true (by kernel_rfl)) (rd_op5 enc W) (by rintro v ⟨b, rfl⟩; rfl)).mono ?_
  rintro v ⟨xs, rfl, h, _⟩
  obtain ⟨l, rfl⟩ := map_of (f := op5) (fun x h => h) h
  exact ⟨l, rfl⟩
end Go.Mac

namespace Go.Mac
open Go Go.Eng Go.Proofs Go.Proofs.YtddbfjgodbfaoaaDoor 
set_option linter.unusedVariables false
set_option maxRecDepth 100000
theorem full_lcall (rm at_ : Int) (l : List Act5) (h0 : 0 ≤ rm) (h1 : rm ≤ 255) (ha : 0 ≤ at_) (ha2 : at_ ≤ 65535) :
    lcall Tryd.prog C0 601 5 [.int .u8 rm, .isl 5 (ops5 l), .int .u16 at_] ⟨0, []⟩ = some (.bool true, ⟨0, []⟩) := by
  have h := full_ok rm at_ l h0 h1 ha ha2
  have hr : refsL [LV.int .u8 rm, .isl 5 (ops5 l), .int .u16 at_] = [] := rfl
  have e : renL (fun b => ixOf [] b 0) [LV.int .u8 rm, .isl 5 (ops5 l), .int .u16 at_] = [LV.int .u8 rm, .isl 5 (ops5 l), .int .u16 at_] := rfl
  rw [← e] at h
  exact lcall_nil hr h
theorem full_params {H : Type} (enc : TypeId × Value → H) (W : World) : Params enc Tryd.prog R0 W Tryd.f5.params.toList [isU8v, isOps5, isU16] := by
  rw [Tryd.params5]
  exact ⟨⟨ok1_int (k := .u8) (by kernel_rfl), Rd.int (by kernel_rfl), by rintro u ⟨l, rfl, _⟩; rfl⟩, ⟨ok1_slice (e := 41) (by kernel_rfl), rd_ops5 enc W, by rintro u ⟨l, rfl⟩; rfl⟩, ⟨ok1_int (k := .u16) (by kernel_rfl), Rd.int (by kernel_rfl), by rintro u ⟨l, rfl, _⟩; rfl⟩, trivial⟩
theorem enterFull (vs : Array Value) (W : World) : (callFunc 5 vs).run Tryd.prog W = .ok (.enter 5 vs) W := by kernel_rfl
theorem full_lifted (os : Os) (started : os.Started) (H : Type) (enc : TypeId × Value → H) :
    ReturnsInHanded {} Tryd.checked os 5 .any (fun w args => (Rows.blockFullSpec.pre enc Tryd.prog Tryd.f5 Rows.blockFullRow.domain false w args ∧ laidMetH Tryd.prog laidL w) ∧ sizedMet enc Tryd.prog Tryd.f5 (OpenSpec.ofChange Rows.blockFullSpec) false w args)
      (Rows.blockFullSpec.post enc Tryd.prog Tryd.f5 false true false false) :=
  lifted_of_lcall_laid (X := fun w _ => laidMetH Tryd.prog laidL w) (K := Tryd.checked) (C := C0) (Gs := [isU8v, isOps5, isU16]) (tb := 4) (fun _ _ _ hh h => h.of_heap hh) (fun _ _ h => gnd_of_laid h) started own_seat laid_seat extC0 mixed_seat (by kernel_rfl) Tryd.func5 rfl
    (by rw [Tryd.params5]; exact of_decide_eq_true (by kernel_rfl)) (by kernel_rfl) (by kernel_rfl) (fun W => full_params enc W)
    (fun xs h => by
      match xs, h with
      | [a, b, c], h =>
        obtain ⟨⟨n, rfl, hw⟩, ⟨k, rfl⟩, ⟨l, rfl, hw3⟩, _⟩ := h
        have q1 := u8_wf hw
        have q2 := u16_wf hw3
        exact ⟨601, full_lcall n l k q1.1 q1.2 q2.1 q2.2, rfl⟩)
    (fun ds h => by
      have h : ds.length = 3 := h
      match ds, h with
      | [d1, d2, d3], _ => exact ⟨rfl, rfl, rfl⟩)
    enterFull
    (ChangeSpec.witness_at (enc := enc) (C := Tryd.checked) (os := os) (X := fun w _ => laidMetH Tryd.prog laidL w) false (laidWorld os) #[.int .u8 0, .slice none 0 0, .int .u16 0] 8 rfl (by kernel_rfl) (by kernel_rfl) (by kernel_rfl) (by kernel_rfl) (by kernel_rfl) (laidWorld_met os _))
theorem full_over : Rows.blockFullRow.holds Tryd.pinned (OpenSpec.ofChange Rows.blockFullSpec) :=
  OpenClaim.holds_of_wide 5 Tryd.f5 rfl rfl rfl rfl rfl rfl rfl ⟨rfl, rfl, rfl, rfl, rfl⟩ rfl rfl rfl rfl rfl (by kernel_rfl) Tryd.func5 (by kernel_rfl)
    (of_decide_eq_true (by kernel_rfl)) (by unfold Func.isWrapper; first | (rw [if_pos (by decide +kernel)]; kernel_rfl) | (rw [if_neg (by decide +kernel)]; exact ⟨rfl, rfl⟩))
    (fun os started H enc _ => full_lifted os started H enc)
end Go.Mac
namespace Go.Proofs.YtddbfjgodbfaoaaDoor
theorem blockFull_holds : Rows.BlockFullCardSaid :=
  Claim7.holds_tied_plain_at .later [] [.handle] true (true, "c3fc81baa855257402cbc0179af60ab3c03419440fcea4c204e822c83a59097f") true
    Go.Mac.full_over (fun _ h => by cases h) (by kernel_rfl) (fun _ h => by cases h) blockFull_row_tie rfl ⟨rfl, rfl⟩ (by kernel_rfl) rfl
    (fun f fn hf hfn => by
      obtain rfl : f = 5 := Option.some.inj ((show Tryd.prog.funcNamed "castellan/castellanlaw08.BlockFull" = some 5 by kernel_rfl).symm.trans hf) |>.symm
      obtain rfl : fn = Tryd.f5 := (Option.some.inj (Tryd.func5.symm.trans hfn)).symm
      exact ⟨by kernel_rfl, fun j t ht => by
        rw [Tryd.params5] at ht
        have h3 : t = 5 ∨ t = 22 ∨ t = 55 := by
          rcases j with _ | _ | _ | j
          · exact .inl (by simpa using ht.symm)
          · exact .inr (.inl (by simpa using ht.symm))
          · exact .inr (.inr (by simpa using ht.symm))
          · simp at ht
        rcases h3 with rfl | rfl | rfl
        · exact (show Tryd.prog.wantsStandIn 5 = false by kernel_rfl)
        · exact (show Tryd.prog.wantsStandIn 22 = false by kernel_rfl)
        · exact (show Tryd.prog.wantsStandIn 55 = false by kernel_rfl)⟩)
    (by kernel_rfl)
end Go.Proofs.YtddbfjgodbfaoaaDoor
