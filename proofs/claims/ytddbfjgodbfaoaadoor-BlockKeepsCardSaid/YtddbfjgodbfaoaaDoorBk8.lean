/-
  BlockKeeps: for every input that the given row lets in, the law returns true and each argument reads as it did; the one package variable that the row lists (errors.errorType) is tied to the program's text by the given tie. No further condition.
-/
import Derived.Test.YtddbfjgodbfaoaaDoorBk3
import Derived.Test.YtddbfjgodbfaoaaDoorBk5
import Derived.Test.YtddbfjgodbfaoaaDoorBk6
import Derived.Test.YtddbfjgodbfaoaaDoorBk7
import Derived.Test.YtddbfjgodbfaoaaDoorProg
import Derived.KernelRfl
import Derived.Test.YtddbfjgodbfaoaaDoorRows
import Derived.ChangeSame
import Derived.ChangeVars
import Derived.RowKitTokens
import Derived.LaidLaws
import Derived.LaidHandle
import Derived.Stop.Joined
import Derived.Test.YtddbfjgodbfaoaaDoorTie
import Derived.Test.YtddbfjgodbfaoaaDoorCards
import Derived.SevenTiedAt
set_option linter.unusedVariables false
set_option linter.unusedSimpArgs false
namespace Go.Mac
open Go Go.Eng Go.Proofs
set_option linter.unusedVariables false
set_option maxHeartbeats 0
set_option maxRecDepth 100000
theorem kw_otherN (n fu : Nat) (rm cut at_ : Int) (l : List Act5) (ks0 was : List Int) (hl : l.length ≤ 60) (ha0 : 0 ≤ at_) (ha1 : at_ ≤ 1000) (i : Int) (hi0 : 0 ≤ i) (hi : i < (l.length : Int)) (k a : Int) (b ks : List Int) (c : Int) (hx : (ops5 l)[i.toNat]? = some (.agg [.int .i64 k, .int .i64 a, .isl 1 (bys b), .isl 1 (ints ks), .int .i64 c])) (m : List (Int × List Int)) (p p' : List (Int × Option (List Int))) (hp : p.length ≤ 10000) (k0 : ¬ k = 0) (r : LX × LEnv × St)
    (hr : loopAt Tryd.prog C0 (n + 200) 4 1 0 fu (kwE cut at_ l ks0 was .nils (i + 1)) (kwO rm m p) = some r) :
    loopAt Tryd.prog C0 (n + 200) 4 1 0 (fu + 1) (kwE cut at_ l ks0 was .nils i) (kwN rm m p) = some r := by
  have f1 : decide (i < (↑(List.length (ops5 l)) : Int)) = true := by (simp [-List.reduceReplicate]; omega)
  have f2 : LV.int IntKind.i64 (↑(List.length (ops5 l)) : Int) = LV.int IntKind.i64 (↑(List.length l) : Int) := by simp
  have f3 : LV.bool (decide (i < (↑(List.length (ops5 l)) : Int))) = LV.bool true := by (simp [-List.reduceReplicate]; omega)
  have f4 : LObj.map IntKind.i64 (List.zip (mapK m) (mapV m)) = LObj.map IntKind.i64 (mapE m) := by simp
  have f5 : LObj.box 64 [LV.int IntKind.i64 rm, LV.map 1, LV.sl 2 2 0 (List.length (pnds p)) none] = LObj.box 64 [LV.int IntKind.i64 rm, LV.map 1, LV.sl 2 2 0 (List.length p) none] := by simp
  have f6 : (ops5 l)[Int.toNat i]? = some (LV.agg [LV.int IntKind.i64 k, LV.int IntKind.i64 a, LV.isl 1 (bys b), LV.isl 1 (ints ks), LV.int IntKind.i64 c]) := hx
  have f7 : 0 ≤ i ∧ i < (↑(List.length (ops5 l)) : Int) := by (simp [-List.reduceReplicate]; omega)
  have f8 : decide (k = 0) = false := by (simp [-List.reduceReplicate]; omega)
  have f9 : lpick (decide (k = 0)) LV.any (LV.bool false) = some (LV.bool false) := by (simp [-List.reduceReplicate]; omega)
  have f10 : LV.int IntKind.i64 (IntKind.wrap IntKind.i64 (i + 1)) = LV.int IntKind.i64 (i + 1) := by simp (disch := omega) [-List.reduceReplicate]
  have f11 := hr
  exact dloop_ok (fun h => And.intro (congrArg LV.bool f1) <| And.intro (f2) <| And.intro (f3) <| And.intro (congrArg some f4) <| And.intro (congrArg some f5) <| And.intro (f7) <| And.intro (f6) <| And.intro (congrArg some f8) <| And.intro (congrArg some f8) <| And.intro (congrArg some f8) <| And.intro (congrArg some f8) <| And.intro (congrArg some f8) <| And.intro (congrArg some f8) <| And.intro (congrArg some f8) <| And.intro (congrArg some f8) <| And.intro (congrArg some f8) <| And.intro (congrArg some f8) <| And.intro (congrArg some f8) <| And.intro (congrArg some f8) <| And.intro (congrArg some f8) <| And.intro (x_mapS (st := (St.mk 3 [(2, LObj.row 90 2 (pnds p)), (1, LObj.map IntKind.i64 (mapE m)), (0, LObj.box 64 [LV.int IntKind.i64 rm, LV.map 1, LV.sl 2 2 0 (List.length p) none])])) f9 rfl) <| And.intro (f10) <| And.intro (Eq.refl (tidyOf f11)) <| And.intro (f11) <| h) (.i (.s (.s (.a) (.b true (.a))) (.s (.k (.s (.d [.y 83 (vOf f2), .y 84 (vOf f3), .x 1 (vOf f4), .x 0 (vOf f5)] [.a, .a, .e (rOf f6), .a, .a, .a, .a, .g false (.a), .g false (.a), .g false (.a), .g false (.a), .g false (.a), .g false (.a), .g false (.a), .g false (.a), .g false (.a), .g false (.a), .g false (.a), .g false (.a), .g false (.a), .t (rOf (x_mapS (st := (St.mk 3 [(2, LObj.row 90 2 (pnds p)), (1, LObj.map IntKind.i64 (mapE m)), (0, LObj.box 64 [LV.int IntKind.i64 rm, LV.map 1, LV.sl 2 2 0 (List.length p) none])])) f9 rfl)), .a, .a, .a, .a, .a, .a, .a] [] []) (.a))) (.r [.a, .v (vOf f10) (.a)]))) (.h [] (eOf f11) (stOf f11) (rOf f11))) (by kernel_rfl)
theorem kw_failN (n fu : Nat) (rm cut at_ : Int) (l : List Act5) (ks0 was : List Int) (hl : l.length ≤ 60) (ha0 : 0 ≤ at_) (ha1 : at_ ≤ 1000) (i : Int) (hi0 : 0 ≤ i) (hi : i < (l.length : Int)) (k a : Int) (b ks : List Int) (c : Int) (hx : (ops5 l)[i.toNat]? = some (.agg [.int .i64 k, .int .i64 a, .isl 1 (bys b), .isl 1 (ints ks), .int .i64 c])) (m : List (Int × List Int)) (p p' : List (Int × Option (List Int))) (hp : p.length ≤ 10000) (k0 : k = 0) (op : List UInt8) (ea ec : Int) (D : ∀ j, lrun Tryd.prog C0 (lcall Tryd.prog C0 (j + 20)) (j + 20) 19 [.ptr 0 0, .int .i64 a, .isl 1 (bys b)] ⟨1, [(0, dO rm m p)]⟩ = some (flt op ea ec, ⟨1, [(0, dO rm m p)]⟩)) (r : LX × LEnv × St)
    (hr : loopAt Tryd.prog C0 (n + 200) 4 1 0 fu (kwE cut at_ l ks0 was .nils (i + 1)) (kwN rm m p) = some r) :
    loopAt Tryd.prog C0 (n + 200) 4 1 0 (fu + 1) (kwE cut at_ l ks0 was .nils i) (kwN rm m p) = some r := by
  have f1 : decide (i < (↑(List.length (ops5 l)) : Int)) = true := by (simp [-List.reduceReplicate]; omega)
  have f2 : LV.int IntKind.i64 (↑(List.length (ops5 l)) : Int) = LV.int IntKind.i64 (↑(List.length l) : Int) := by simp
  have f3 : LV.bool (decide (i < (↑(List.length (ops5 l)) : Int))) = LV.bool true := by (simp [-List.reduceReplicate]; omega)
  have f4 : LObj.map IntKind.i64 (List.zip (mapK m) (mapV m)) = LObj.map IntKind.i64 (mapE m) := by simp
  have f5 : LObj.box 64 [LV.int IntKind.i64 rm, LV.map 1, LV.sl 2 2 0 (List.length (pnds p)) none] = LObj.box 64 [LV.int IntKind.i64 rm, LV.map 1, LV.sl 2 2 0 (List.length p) none] := by simp
  have f6 : (ops5 l)[Int.toNat i]? = some (LV.agg [LV.int IntKind.i64 k, LV.int IntKind.i64 a, LV.isl 1 (bys b), LV.isl 1 (ints ks), LV.int IntKind.i64 c]) := hx
  have f7 : 0 ≤ i ∧ i < (↑(List.length (ops5 l)) : Int) := by (simp [-List.reduceReplicate]; omega)
  have f8 : LV.irp (LV.agg [LV.int IntKind.i64 k, LV.int IntKind.i64 a, LV.isl 1 (bys b), LV.isl 1 (ints ks), LV.int IntKind.i64 c]) = LV.irp (LV.agg [LV.int IntKind.i64 0, LV.int IntKind.i64 a, LV.isl 1 (bys b), LV.isl 1 (ints ks), LV.int IntKind.i64 c]) := by (simp [-List.reduceReplicate]; omega)
  have f9 : List.length (pnds p) = List.length p := by simp
  have f10 : LObj.box 64 [LV.int IntKind.i64 rm, LV.omap IntKind.i64 (List.map (fun x => Prod.fst x) (mapE m)) (List.map (fun x => Prod.snd x) (mapE m)), LV.own 90 2 (pnds p)] = LObj.box 64 [LV.int IntKind.i64 rm, LV.omap IntKind.i64 (mapK m) (mapV m), LV.own 90 2 (pnds p)] := by simp
  have f11 := D (n + 179)
  have f12 : LV.int IntKind.i64 (IntKind.wrap IntKind.i64 (i + 1)) = LV.int IntKind.i64 (i + 1) := by simp (disch := omega) [-List.reduceReplicate]
  have f13 := hr
  exact dloop_ok (fun h => And.intro (congrArg LV.bool f1) <| And.intro (f2) <| And.intro (f3) <| And.intro (congrArg some f4) <| And.intro (congrArg some f5) <| And.intro (f7) <| And.intro (f6) <| And.intro (f8) <| And.intro (f7) <| And.intro (f6) <| And.intro (f8) <| And.intro (f7) <| And.intro (f6) <| And.intro (f8) <| And.intro (f9) <| And.intro (congrArg some f10) <| And.intro (f11) <| And.intro (f12) <| And.intro (Eq.refl (tidyOf f13)) <| And.intro (f13) <| h) (.i (.s (.s (.a) (.b true (.a))) (.s (.k (.s (.d [.y 83 (vOf f2), .y 84 (vOf f3), .x 1 (vOf f4), .x 0 (vOf f5)] [.a, .a, .v (vOf f8) (.e (rOf f6)), .a, .a, .a, .a, .a, .a, .a, .v (vOf f8) (.e (rOf f6)), .a, .a, .a, .a, .v (vOf f8) (.e (rOf f6)), .a, .a, .fr .q [.x 0 (vOf f10)] (rOf f11), .a, .a, .a, .a, .a, .a, .a, .a, .a] [] []) (.a))) (.r [.a, .v (vOf f12) (.a)]))) (.h [] (eOf f13) (stOf f13) (rOf f13))) (by kernel_rfl)
theorem kw_elseN (n fu : Nat) (rm cut at_ : Int) (l : List Act5) (ks0 was : List Int) (hl : l.length ≤ 60) (ha0 : 0 ≤ at_) (ha1 : at_ ≤ 1000) (i : Int) (hi0 : 0 ≤ i) (hi : i < (l.length : Int)) (k a : Int) (b ks : List Int) (c : Int) (hx : (ops5 l)[i.toNat]? = some (.agg [.int .i64 k, .int .i64 a, .isl 1 (bys b), .isl 1 (ints ks), .int .i64 c])) (m : List (Int × List Int)) (p p' : List (Int × Option (List Int))) (hp : p.length ≤ 10000) (k0 : k = 0) (hne : ¬ a = at_) (D : ∀ j, lrun Tryd.prog C0 (lcall Tryd.prog C0 (j + 20)) (j + 20) 19 [.ptr 0 0, .int .i64 a, .isl 1 (bys b)] ⟨1, [(0, dO rm m p)]⟩ = some (.nili, ⟨1, [(0, dO rm m p')]⟩)) (r : LX × LEnv × St)
    (hr : loopAt Tryd.prog C0 (n + 200) 4 1 0 fu (kwE cut at_ l ks0 was .nils (i + 1)) (kwN rm m p') = some r) :
    loopAt Tryd.prog C0 (n + 200) 4 1 0 (fu + 1) (kwE cut at_ l ks0 was .nils i) (kwN rm m p) = some r := by
  have f1 : decide (i < (↑(List.length (ops5 l)) : Int)) = true := by (simp [-List.reduceReplicate]; omega)
  have f2 : LV.int IntKind.i64 (↑(List.length (ops5 l)) : Int) = LV.int IntKind.i64 (↑(List.length l) : Int) := by simp
  have f3 : LV.bool (decide (i < (↑(List.length (ops5 l)) : Int))) = LV.bool true := by (simp [-List.reduceReplicate]; omega)
  have f4 : LObj.map IntKind.i64 (List.zip (mapK m) (mapV m)) = LObj.map IntKind.i64 (mapE m) := by simp
  have f5 : LObj.box 64 [LV.int IntKind.i64 rm, LV.map 1, LV.sl 2 2 0 (List.length (pnds p)) none] = LObj.box 64 [LV.int IntKind.i64 rm, LV.map 1, LV.sl 2 2 0 (List.length p) none] := by simp
  have f6 : (ops5 l)[Int.toNat i]? = some (LV.agg [LV.int IntKind.i64 k, LV.int IntKind.i64 a, LV.isl 1 (bys b), LV.isl 1 (ints ks), LV.int IntKind.i64 c]) := hx
  have f7 : 0 ≤ i ∧ i < (↑(List.length (ops5 l)) : Int) := by (simp [-List.reduceReplicate]; omega)
  have f8 : LV.irp (LV.agg [LV.int IntKind.i64 k, LV.int IntKind.i64 a, LV.isl 1 (bys b), LV.isl 1 (ints ks), LV.int IntKind.i64 c]) = LV.irp (LV.agg [LV.int IntKind.i64 0, LV.int IntKind.i64 a, LV.isl 1 (bys b), LV.isl 1 (ints ks), LV.int IntKind.i64 c]) := by (simp [-List.reduceReplicate]; omega)
  have f9 : List.length (pnds p) = List.length p := by simp
  have f10 : LObj.box 64 [LV.int IntKind.i64 rm, LV.omap IntKind.i64 (List.map (fun x => Prod.fst x) (mapE m)) (List.map (fun x => Prod.snd x) (mapE m)), LV.own 90 2 (pnds p)] = LObj.box 64 [LV.int IntKind.i64 rm, LV.omap IntKind.i64 (mapK m) (mapV m), LV.own 90 2 (pnds p)] := by simp
  have f11 := D (n + 179)
  have f12 : LV.bool (if true = true then decide (a = at_) else false) = LV.bool false := by (simp [-List.reduceReplicate]; omega)
  have f13 : LV.int IntKind.i64 (IntKind.wrap IntKind.i64 (i + 1)) = LV.int IntKind.i64 (i + 1) := by simp (disch := omega) [-List.reduceReplicate]
  have f14 := hr
  exact dloop_ok (fun h => And.intro (congrArg LV.bool f1) <| And.intro (f2) <| And.intro (f3) <| And.intro (congrArg some f4) <| And.intro (congrArg some f5) <| And.intro (f7) <| And.intro (f6) <| And.intro (f8) <| And.intro (f7) <| And.intro (f6) <| And.intro (f8) <| And.intro (f7) <| And.intro (f6) <| And.intro (f8) <| And.intro (f9) <| And.intro (congrArg some f10) <| And.intro (f11) <| And.intro (f7) <| And.intro (f6) <| And.intro (f8) <| And.intro (f12) <| And.intro (f13) <| And.intro (Eq.refl (tidyOf f14)) <| And.intro (f14) <| h) (.i (.s (.s (.a) (.b true (.a))) (.s (.k (.s (.d [.y 83 (vOf f2), .y 84 (vOf f3), .x 1 (vOf f4), .x 0 (vOf f5)] [.a, .a, .v (vOf f8) (.e (rOf f6)), .a, .a, .a, .a, .a, .a, .a, .v (vOf f8) (.e (rOf f6)), .a, .a, .a, .a, .v (vOf f8) (.e (rOf f6)), .a, .a, .fr .q [.x 0 (vOf f10)] (rOf f11), .a, .a, .a, .a, .a, .v (vOf f8) (.e (rOf f6)), .a, .a, .a] [] [.a, .v (vOf f12) (.a)]) (.a))) (.r [.a, .v (vOf f13) (.a)]))) (.h [] (eOf f14) (stOf f14) (rOf f14))) (by kernel_rfl)
theorem kw_hitN (n fu : Nat) (rm cut at_ : Int) (l : List Act5) (ks0 was : List Int) (hl : l.length ≤ 60) (ha0 : 0 ≤ at_) (ha1 : at_ ≤ 1000) (i : Int) (hi0 : 0 ≤ i) (hi : i < (l.length : Int)) (k : Int) (b ks : List Int) (c : Int) (hx : (ops5 l)[i.toNat]? = some (.agg [.int .i64 k, .int .i64 at_, .isl 1 (bys b), .isl 1 (ints ks), .int .i64 c])) (m : List (Int × List Int)) (p p' : List (Int × Option (List Int))) (hp : p.length ≤ 10000) (k0 : k = 0) (v : List Int) (hv : v.length = 64) (D : ∀ j, lrun Tryd.prog C0 (lcall Tryd.prog C0 (j + 20)) (j + 20) 19 [.ptr 0 0, .int .i64 at_, .isl 1 (bys b)] ⟨1, [(0, dO rm m p)]⟩ = some (.nili, ⟨1, [(0, dO rm m p')]⟩)) (R : ∀ j, lrun Tryd.prog C0 (lcall Tryd.prog C0 (j)) (j) 18 [.ptr 0 0, .int .i64 at_] ⟨1, [(0, dO rm m p')]⟩ = some (.tup [.isl 1 (bys v), .nili], ⟨1, [(0, dO rm m p')]⟩)) (r : LX × LEnv × St)
    (hr : loopAt Tryd.prog C0 (n + 200) 4 1 0 fu (kwE cut at_ l ks0 was (.sl 1 1 0 1 none) (i + 1)) (kwS rm m p' [v]) = some r) :
    loopAt Tryd.prog C0 (n + 200) 4 1 0 (fu + 1) (kwE cut at_ l ks0 was .nils i) (kwN rm m p) = some r := by
  have f1 : decide (i < (↑(List.length (ops5 l)) : Int)) = true := by (simp [-List.reduceReplicate]; omega)
  have f2 : LV.int IntKind.i64 (↑(List.length (ops5 l)) : Int) = LV.int IntKind.i64 (↑(List.length l) : Int) := by simp
  have f3 : LV.bool (decide (i < (↑(List.length (ops5 l)) : Int))) = LV.bool true := by (simp [-List.reduceReplicate]; omega)
  have f4 : LObj.map IntKind.i64 (List.zip (mapK m) (mapV m)) = LObj.map IntKind.i64 (mapE m) := by simp
  have f5 : LObj.box 64 [LV.int IntKind.i64 rm, LV.map 1, LV.sl 2 2 0 (List.length (pnds p)) none] = LObj.box 64 [LV.int IntKind.i64 rm, LV.map 1, LV.sl 2 2 0 (List.length p) none] := by simp
  have f6 : (ops5 l)[Int.toNat i]? = some (LV.agg [LV.int IntKind.i64 k, LV.int IntKind.i64 at_, LV.isl 1 (bys b), LV.isl 1 (ints ks), LV.int IntKind.i64 c]) := hx
  have f7 : 0 ≤ i ∧ i < (↑(List.length (ops5 l)) : Int) := by (simp [-List.reduceReplicate]; omega)
  have f8 : LV.irp (LV.agg [LV.int IntKind.i64 k, LV.int IntKind.i64 at_, LV.isl 1 (bys b), LV.isl 1 (ints ks), LV.int IntKind.i64 c]) = LV.irp (LV.agg [LV.int IntKind.i64 0, LV.int IntKind.i64 at_, LV.isl 1 (bys b), LV.isl 1 (ints ks), LV.int IntKind.i64 c]) := by (simp [-List.reduceReplicate]; omega)
  have f9 : List.length (pnds p) = List.length p := by simp
  have f10 : LObj.box 64 [LV.int IntKind.i64 rm, LV.omap IntKind.i64 (List.map (fun x => Prod.fst x) (mapE m)) (List.map (fun x => Prod.snd x) (mapE m)), LV.own 90 2 (pnds p)] = LObj.box 64 [LV.int IntKind.i64 rm, LV.omap IntKind.i64 (mapK m) (mapV m), LV.own 90 2 (pnds p)] := by simp
  have f11 := D (n + 179)
  have f12 : LV.bool (if true = true then decide (at_ = at_) else false) = LV.bool true := by simp
  have f13 := R (n + 199)
  have f14 : LV.int IntKind.i64 (IntKind.wrap IntKind.i64 (i + 1)) = LV.int IntKind.i64 (i + 1) := by simp (disch := omega) [-List.reduceReplicate]
  have f15 : LObj.row 38 1 (List.take 1 (List.drop 0 (List.set [LV.nils] 0 (LV.isl 1 (bys v))))) = LObj.row 38 1 [LV.isl 1 (bys v)] := by simp
  have f16 := hr
  exact dloop_ok (fun h => And.intro (congrArg LV.bool f1) <| And.intro (f2) <| And.intro (f3) <| And.intro (congrArg some f4) <| And.intro (congrArg some f5) <| And.intro (f7) <| And.intro (f6) <| And.intro (f8) <| And.intro (f7) <| And.intro (f6) <| And.intro (f8) <| And.intro (f7) <| And.intro (f6) <| And.intro (f8) <| And.intro (f9) <| And.intro (congrArg some f10) <| And.intro (f11) <| And.intro (f7) <| And.intro (f6) <| And.intro (f8) <| And.intro (f12) <| And.intro (f13) <| And.intro (f14) <| And.intro (congrArg some f15) <| And.intro (Eq.refl (tidyOf f16)) <| And.intro (f16) <| h) (.i (.s (.s (.a) (.b true (.a))) (.s (.k (.s (.d [.y 83 (vOf f2), .y 84 (vOf f3), .x 1 (vOf f4), .x 0 (vOf f5)] [.a, .a, .v (vOf f8) (.e (rOf f6)), .a, .a, .a, .a, .a, .a, .a, .v (vOf f8) (.e (rOf f6)), .a, .a, .a, .a, .v (vOf f8) (.e (rOf f6)), .a, .a, .fr .q [.x 0 (vOf f10)] (rOf f11), .a, .a, .a, .a, .a, .v (vOf f8) (.e (rOf f6)), .a, .a, .a] [] [.a, .v (vOf f12) (.a)]) (.c (.s (.r [.a, .a, .f (rOf f13)]) (.a))))) (.r [.a, .v (vOf f14) (.a)]))) (.h [.x 1 (vOf f15)] (eOf f16) (stOf f16) (rOf f16))) (by kernel_rfl)
theorem kw_endN (n fu : Nat) (rm cut at_ : Int) (l : List Act5) (ks0 was : List Int) (hl : l.length ≤ 60) (m : List (Int × List Int)) (p : List (Int × Option (List Int))) :
    loopAt Tryd.prog C0 (n + 200) 4 1 0 (fu + 1) (kwE cut at_ l ks0 was .nils l.length) (kwN rm m p) = some (.exit 2, kwX cut at_ l ks0 was .nils l.length, (kwN rm m p)) := by
  have f1 : decide ((↑(List.length l) : Int) < (↑(List.length (ops5 l)) : Int)) = false := by simp
  have f2 : (LX.exit 2, [LV.any, LV.isl 5 (ops5 l), LV.isl 1 (ints ks0), LV.int IntKind.i64 cut, LV.int IntKind.i64 at_, LV.any, LV.any, LV.any, LV.any, LV.any, LV.any, LV.ptr 0 0, LV.any, LV.any, LV.isl 1 (bys was), LV.any, LV.nils, LV.int IntKind.i64 (↑(List.length l) : Int), LV.any, LV.any, LV.any, LV.any, LV.any, LV.any, LV.any, LV.any, LV.any, LV.any, LV.any, LV.any, LV.any, LV.any, LV.any, LV.any, LV.any, LV.any, LV.any, LV.any, LV.any, LV.any, LV.any, LV.any, LV.any, LV.any, LV.any, LV.any, LV.any, LV.any, LV.any, LV.any, LV.any, LV.any, LV.any, LV.any, LV.any, LV.any, LV.any, LV.any, LV.any, LV.any, LV.any, LV.any, LV.any, LV.any, LV.any, LV.any, LV.any, LV.any, LV.any, LV.any, LV.any, LV.any, LV.any, LV.any, LV.any, LV.any, LV.any, LV.any, LV.any, LV.any, LV.any, LV.int IntKind.i64 (↑(List.length l) : Int), LV.isl 5 (ops5 l), LV.int IntKind.i64 (↑(List.length (ops5 l)) : Int), LV.bool (decide ((↑(List.length l) : Int) < (↑(List.length (ops5 l)) : Int))), LV.any, LV.any, LV.any, LV.any, LV.any, LV.any, LV.any, LV.any, LV.any, LV.any, LV.any, LV.any, LV.any, LV.any, LV.any, LV.any, LV.any, LV.any, LV.any, LV.any, LV.any, LV.any, LV.any, LV.any, LV.any, LV.any, LV.any, LV.any, LV.any, LV.any, LV.any, LV.any, LV.any, LV.any, LV.any, LV.any, LV.any, LV.any, LV.any, LV.any, LV.any, LV.any, LV.any, LV.any, LV.any, LV.any, LV.any, LV.any, LV.any, LV.any, LV.any, LV.any, LV.any, LV.any, LV.any, LV.any, LV.any, LV.any, LV.any, LV.any, LV.any, LV.any, LV.any, LV.any, LV.any, LV.any, LV.any, LV.any, LV.any, LV.any, LV.any, LV.any, LV.any, LV.any, LV.any, LV.any, LV.any, LV.any, LV.any, LV.any], St.mk 1 [(0, LObj.box 64 [LV.int IntKind.i64 rm, LV.omap IntKind.i64 (mapK m) (mapV m), LV.own 90 2 (pnds p)])]) = (LX.exit 2, kwX cut at_ l ks0 was LV.nils (↑(List.length l) : Int), kwN rm m p) := by simp
  exact dloop_ok (fun h => And.intro (congrArg LV.bool f1) <| f2) (.i (.s (.s (.a) (.b false (.a))) .a) (.a)) (by kernel_rfl)
theorem kw_otherO (n fu : Nat) (rm cut at_ : Int) (l : List Act5) (ks0 was : List Int) (hl : l.length ≤ 60) (ha0 : 0 ≤ at_) (ha1 : at_ ≤ 1000) (i : Int) (hi0 : 0 ≤ i) (hi : i < (l.length : Int)) (k a : Int) (b ks : List Int) (c : Int) (hx : (ops5 l)[i.toNat]? = some (.agg [.int .i64 k, .int .i64 a, .isl 1 (bys b), .isl 1 (ints ks), .int .i64 c])) (m : List (Int × List Int)) (p p' : List (Int × Option (List Int))) (hp : p.length ≤ 10000) (k0 : ¬ k = 0) (r : LX × LEnv × St)
    (hr : loopAt Tryd.prog C0 (n + 200) 4 1 0 fu (kwE cut at_ l ks0 was .nils (i + 1)) (kwO rm m p) = some r) :
    loopAt Tryd.prog C0 (n + 200) 4 1 0 (fu + 1) (kwE cut at_ l ks0 was .nils i) (kwO rm m p) = some r := by
  have f1 : decide (i < (↑(List.length (ops5 l)) : Int)) = true := by (simp [-List.reduceReplicate]; omega)
  have f2 : (ops5 l)[Int.toNat i]? = some (LV.agg [LV.int IntKind.i64 k, LV.int IntKind.i64 a, LV.isl 1 (bys b), LV.isl 1 (ints ks), LV.int IntKind.i64 c]) := hx
  have f3 : 0 ≤ i ∧ i < (↑(List.length (ops5 l)) : Int) := by (simp [-List.reduceReplicate]; omega)
  have f4 : decide (k = 0) = false := by (simp [-List.reduceReplicate]; omega)
  have f5 : lpick (decide (k = 0)) LV.any (LV.bool false) = some (LV.bool false) := by (simp [-List.reduceReplicate]; omega)
  have f6 : LV.int IntKind.i64 (IntKind.wrap IntKind.i64 (i + 1)) = LV.int IntKind.i64 (i + 1) := by simp (disch := omega) [-List.reduceReplicate]
  have f7 := hr
  exact dloop_ok (fun h => And.intro (congrArg LV.bool f1) <| And.intro (f3) <| And.intro (f2) <| And.intro (congrArg some f4) <| And.intro (congrArg some f4) <| And.intro (congrArg some f4) <| And.intro (congrArg some f4) <| And.intro (congrArg some f4) <| And.intro (congrArg some f4) <| And.intro (congrArg some f4) <| And.intro (congrArg some f4) <| And.intro (congrArg some f4) <| And.intro (congrArg some f4) <| And.intro (congrArg some f4) <| And.intro (congrArg some f4) <| And.intro (congrArg some f4) <| And.intro (x_mapS (st := (St.mk 3 [(0, LObj.box 64 [LV.int IntKind.i64 rm, LV.map 1, LV.sl 2 2 0 (List.length p) none]), (1, LObj.map IntKind.i64 (mapE m)), (2, LObj.row 90 2 (pnds p))])) f5 rfl) <| And.intro (f6) <| And.intro (Eq.refl (tidyOf f7)) <| And.intro (f7) <| h) (.i (.s (.s (.a) (.b true (.a))) (.s (.k (.s (.d [] [.a, .a, .e (rOf f2), .a, .a, .a, .a, .g false (.a), .g false (.a), .g false (.a), .g false (.a), .g false (.a), .g false (.a), .g false (.a), .g false (.a), .g false (.a), .g false (.a), .g false (.a), .g false (.a), .g false (.a), .t (rOf (x_mapS (st := (St.mk 3 [(0, LObj.box 64 [LV.int IntKind.i64 rm, LV.map 1, LV.sl 2 2 0 (List.length p) none]), (1, LObj.map IntKind.i64 (mapE m)), (2, LObj.row 90 2 (pnds p))])) f5 rfl)), .a, .a, .a, .a, .a, .a, .a] [] []) (.a))) (.r [.a, .v (vOf f6) (.a)]))) (.h [] (eOf f7) (stOf f7) (rOf f7))) (by kernel_rfl)
theorem kw_failO (n fu : Nat) (rm cut at_ : Int) (l : List Act5) (ks0 was : List Int) (hl : l.length ≤ 60) (ha0 : 0 ≤ at_) (ha1 : at_ ≤ 1000) (i : Int) (hi0 : 0 ≤ i) (hi : i < (l.length : Int)) (k a : Int) (b ks : List Int) (c : Int) (hx : (ops5 l)[i.toNat]? = some (.agg [.int .i64 k, .int .i64 a, .isl 1 (bys b), .isl 1 (ints ks), .int .i64 c])) (m : List (Int × List Int)) (p p' : List (Int × Option (List Int))) (hp : p.length ≤ 10000) (k0 : k = 0) (op : List UInt8) (ea ec : Int) (D : ∀ j, lrun Tryd.prog C0 (lcall Tryd.prog C0 (j + 20)) (j + 20) 19 [.ptr 0 0, .int .i64 a, .isl 1 (bys b)] ⟨1, [(0, dO rm m p)]⟩ = some (flt op ea ec, ⟨1, [(0, dO rm m p)]⟩)) (r : LX × LEnv × St)
    (hr : loopAt Tryd.prog C0 (n + 200) 4 1 0 fu (kwE cut at_ l ks0 was .nils (i + 1)) (kwN rm m p) = some r) :
    loopAt Tryd.prog C0 (n + 200) 4 1 0 (fu + 1) (kwE cut at_ l ks0 was .nils i) (kwO rm m p) = some r := by
  have f1 : decide (i < (↑(List.length (ops5 l)) : Int)) = true := by (simp [-List.reduceReplicate]; omega)
  have f2 : (ops5 l)[Int.toNat i]? = some (LV.agg [LV.int IntKind.i64 k, LV.int IntKind.i64 a, LV.isl 1 (bys b), LV.isl 1 (ints ks), LV.int IntKind.i64 c]) := hx
  have f3 : 0 ≤ i ∧ i < (↑(List.length (ops5 l)) : Int) := by (simp [-List.reduceReplicate]; omega)
  have f4 : LV.irp (LV.agg [LV.int IntKind.i64 k, LV.int IntKind.i64 a, LV.isl 1 (bys b), LV.isl 1 (ints ks), LV.int IntKind.i64 c]) = LV.irp (LV.agg [LV.int IntKind.i64 0, LV.int IntKind.i64 a, LV.isl 1 (bys b), LV.isl 1 (ints ks), LV.int IntKind.i64 c]) := by (simp [-List.reduceReplicate]; omega)
  have f5 : List.length (pnds p) = List.length p := by simp
  have f6 : LObj.box 64 [LV.int IntKind.i64 rm, LV.omap IntKind.i64 (List.map (fun x => Prod.fst x) (mapE m)) (List.map (fun x => Prod.snd x) (mapE m)), LV.own 90 2 (pnds p)] = LObj.box 64 [LV.int IntKind.i64 rm, LV.omap IntKind.i64 (mapK m) (mapV m), LV.own 90 2 (pnds p)] := by simp
  have f7 := D (n + 179)
  have f8 : LV.int IntKind.i64 (IntKind.wrap IntKind.i64 (i + 1)) = LV.int IntKind.i64 (i + 1) := by simp (disch := omega) [-List.reduceReplicate]
  have f9 := hr
  exact dloop_ok (fun h => And.intro (congrArg LV.bool f1) <| And.intro (f3) <| And.intro (f2) <| And.intro (f4) <| And.intro (f3) <| And.intro (f2) <| And.intro (f4) <| And.intro (f3) <| And.intro (f2) <| And.intro (f4) <| And.intro (f5) <| And.intro (congrArg some f6) <| And.intro (f7) <| And.intro (f8) <| And.intro (Eq.refl (tidyOf f9)) <| And.intro (f9) <| h) (.i (.s (.s (.a) (.b true (.a))) (.s (.k (.s (.d [] [.a, .a, .v (vOf f4) (.e (rOf f2)), .a, .a, .a, .a, .a, .a, .a, .v (vOf f4) (.e (rOf f2)), .a, .a, .a, .a, .v (vOf f4) (.e (rOf f2)), .a, .a, .fr .q [.x 0 (vOf f6)] (rOf f7), .a, .a, .a, .a, .a, .a, .a, .a, .a] [] []) (.a))) (.r [.a, .v (vOf f8) (.a)]))) (.h [] (eOf f9) (stOf f9) (rOf f9))) (by kernel_rfl)
theorem kw_elseO (n fu : Nat) (rm cut at_ : Int) (l : List Act5) (ks0 was : List Int) (hl : l.length ≤ 60) (ha0 : 0 ≤ at_) (ha1 : at_ ≤ 1000) (i : Int) (hi0 : 0 ≤ i) (hi : i < (l.length : Int)) (k a : Int) (b ks : List Int) (c : Int) (hx : (ops5 l)[i.toNat]? = some (.agg [.int .i64 k, .int .i64 a, .isl 1 (bys b), .isl 1 (ints ks), .int .i64 c])) (m : List (Int × List Int)) (p p' : List (Int × Option (List Int))) (hp : p.length ≤ 10000) (k0 : k = 0) (hne : ¬ a = at_) (D : ∀ j, lrun Tryd.prog C0 (lcall Tryd.prog C0 (j + 20)) (j + 20) 19 [.ptr 0 0, .int .i64 a, .isl 1 (bys b)] ⟨1, [(0, dO rm m p)]⟩ = some (.nili, ⟨1, [(0, dO rm m p')]⟩)) (r : LX × LEnv × St)
    (hr : loopAt Tryd.prog C0 (n + 200) 4 1 0 fu (kwE cut at_ l ks0 was .nils (i + 1)) (kwN rm m p') = some r) :
    loopAt Tryd.prog C0 (n + 200) 4 1 0 (fu + 1) (kwE cut at_ l ks0 was .nils i) (kwO rm m p) = some r := by
  have f1 : decide (i < (↑(List.length (ops5 l)) : Int)) = true := by (simp [-List.reduceReplicate]; omega)
  have f2 : (ops5 l)[Int.toNat i]? = some (LV.agg [LV.int IntKind.i64 k, LV.int IntKind.i64 a, LV.isl 1 (bys b), LV.isl 1 (ints ks), LV.int IntKind.i64 c]) := hx
  have f3 : 0 ≤ i ∧ i < (↑(List.length (ops5 l)) : Int) := by (simp [-List.reduceReplicate]; omega)
  have f4 : LV.irp (LV.agg [LV.int IntKind.i64 k, LV.int IntKind.i64 a, LV.isl 1 (bys b), LV.isl 1 (ints ks), LV.int IntKind.i64 c]) = LV.irp (LV.agg [LV.int IntKind.i64 0, LV.int IntKind.i64 a, LV.isl 1 (bys b), LV.isl 1 (ints ks), LV.int IntKind.i64 c]) := by (simp [-List.reduceReplicate]; omega)
  have f5 : List.length (pnds p) = List.length p := by simp
  have f6 : LObj.box 64 [LV.int IntKind.i64 rm, LV.omap IntKind.i64 (List.map (fun x => Prod.fst x) (mapE m)) (List.map (fun x => Prod.snd x) (mapE m)), LV.own 90 2 (pnds p)] = LObj.box 64 [LV.int IntKind.i64 rm, LV.omap IntKind.i64 (mapK m) (mapV m), LV.own 90 2 (pnds p)] := by simp
  have f7 := D (n + 179)
  have f8 : LV.bool (if true = true then decide (a = at_) else false) = LV.bool false := by (simp [-List.reduceReplicate]; omega)
  have f9 : LV.int IntKind.i64 (IntKind.wrap IntKind.i64 (i + 1)) = LV.int IntKind.i64 (i + 1) := by simp (disch := omega) [-List.reduceReplicate]
  have f10 := hr
  exact dloop_ok (fun h => And.intro (congrArg LV.bool f1) <| And.intro (f3) <| And.intro (f2) <| And.intro (f4) <| And.intro (f3) <| And.intro (f2) <| And.intro (f4) <| And.intro (f3) <| And.intro (f2) <| And.intro (f4) <| And.intro (f5) <| And.intro (congrArg some f6) <| And.intro (f7) <| And.intro (f3) <| And.intro (f2) <| And.intro (f4) <| And.intro (f8) <| And.intro (f9) <| And.intro (Eq.refl (tidyOf f10)) <| And.intro (f10) <| h) (.i (.s (.s (.a) (.b true (.a))) (.s (.k (.s (.d [] [.a, .a, .v (vOf f4) (.e (rOf f2)), .a, .a, .a, .a, .a, .a, .a, .v (vOf f4) (.e (rOf f2)), .a, .a, .a, .a, .v (vOf f4) (.e (rOf f2)), .a, .a, .fr .q [.x 0 (vOf f6)] (rOf f7), .a, .a, .a, .a, .a, .v (vOf f4) (.e (rOf f2)), .a, .a, .a] [] [.a, .v (vOf f8) (.a)]) (.a))) (.r [.a, .v (vOf f9) (.a)]))) (.h [] (eOf f10) (stOf f10) (rOf f10))) (by kernel_rfl)
theorem kw_hitO (n fu : Nat) (rm cut at_ : Int) (l : List Act5) (ks0 was : List Int) (hl : l.length ≤ 60) (ha0 : 0 ≤ at_) (ha1 : at_ ≤ 1000) (i : Int) (hi0 : 0 ≤ i) (hi : i < (l.length : Int)) (k : Int) (b ks : List Int) (c : Int) (hx : (ops5 l)[i.toNat]? = some (.agg [.int .i64 k, .int .i64 at_, .isl 1 (bys b), .isl 1 (ints ks), .int .i64 c])) (m : List (Int × List Int)) (p p' : List (Int × Option (List Int))) (hp : p.length ≤ 10000) (k0 : k = 0) (v : List Int) (hv : v.length = 64) (D : ∀ j, lrun Tryd.prog C0 (lcall Tryd.prog C0 (j + 20)) (j + 20) 19 [.ptr 0 0, .int .i64 at_, .isl 1 (bys b)] ⟨1, [(0, dO rm m p)]⟩ = some (.nili, ⟨1, [(0, dO rm m p')]⟩)) (R : ∀ j, lrun Tryd.prog C0 (lcall Tryd.prog C0 (j)) (j) 18 [.ptr 0 0, .int .i64 at_] ⟨1, [(0, dO rm m p')]⟩ = some (.tup [.isl 1 (bys v), .nili], ⟨1, [(0, dO rm m p')]⟩)) (r : LX × LEnv × St)
    (hr : loopAt Tryd.prog C0 (n + 200) 4 1 0 fu (kwE cut at_ l ks0 was (.sl 1 1 0 1 none) (i + 1)) (kwS rm m p' [v]) = some r) :
    loopAt Tryd.prog C0 (n + 200) 4 1 0 (fu + 1) (kwE cut at_ l ks0 was .nils i) (kwO rm m p) = some r := by
  have f1 : decide (i < (↑(List.length (ops5 l)) : Int)) = true := by (simp [-List.reduceReplicate]; omega)
  have f2 : (ops5 l)[Int.toNat i]? = some (LV.agg [LV.int IntKind.i64 k, LV.int IntKind.i64 at_, LV.isl 1 (bys b), LV.isl 1 (ints ks), LV.int IntKind.i64 c]) := hx
  have f3 : 0 ≤ i ∧ i < (↑(List.length (ops5 l)) : Int) := by (simp [-List.reduceReplicate]; omega)
  have f4 : LV.irp (LV.agg [LV.int IntKind.i64 k, LV.int IntKind.i64 at_, LV.isl 1 (bys b), LV.isl 1 (ints ks), LV.int IntKind.i64 c]) = LV.irp (LV.agg [LV.int IntKind.i64 0, LV.int IntKind.i64 at_, LV.isl 1 (bys b), LV.isl 1 (ints ks), LV.int IntKind.i64 c]) := by (simp [-List.reduceReplicate]; omega)
  have f5 : List.length (pnds p) = List.length p := by simp
  have f6 : LObj.box 64 [LV.int IntKind.i64 rm, LV.omap IntKind.i64 (List.map (fun x => Prod.fst x) (mapE m)) (List.map (fun x => Prod.snd x) (mapE m)), LV.own 90 2 (pnds p)] = LObj.box 64 [LV.int IntKind.i64 rm, LV.omap IntKind.i64 (mapK m) (mapV m), LV.own 90 2 (pnds p)] := by simp
  have f7 := D (n + 179)
  have f8 : LV.bool (if true = true then decide (at_ = at_) else false) = LV.bool true := by simp
  have f9 := R (n + 199)
  have f10 : LV.int IntKind.i64 (IntKind.wrap IntKind.i64 (i + 1)) = LV.int IntKind.i64 (i + 1) := by simp (disch := omega) [-List.reduceReplicate]
  have f11 : LObj.row 38 1 (List.take 1 (List.drop 0 (List.set [LV.nils] 0 (LV.isl 1 (bys v))))) = LObj.row 38 1 [LV.isl 1 (bys v)] := by simp
  have f12 := hr
  exact dloop_ok (fun h => And.intro (congrArg LV.bool f1) <| And.intro (f3) <| And.intro (f2) <| And.intro (f4) <| And.intro (f3) <| And.intro (f2) <| And.intro (f4) <| And.intro (f3) <| And.intro (f2) <| And.intro (f4) <| And.intro (f5) <| And.intro (congrArg some f6) <| And.intro (f7) <| And.intro (f3) <| And.intro (f2) <| And.intro (f4) <| And.intro (f8) <| And.intro (f9) <| And.intro (f10) <| And.intro (congrArg some f11) <| And.intro (Eq.refl (tidyOf f12)) <| And.intro (f12) <| h) (.i (.s (.s (.a) (.b true (.a))) (.s (.k (.s (.d [] [.a, .a, .v (vOf f4) (.e (rOf f2)), .a, .a, .a, .a, .a, .a, .a, .v (vOf f4) (.e (rOf f2)), .a, .a, .a, .a, .v (vOf f4) (.e (rOf f2)), .a, .a, .fr .q [.x 0 (vOf f6)] (rOf f7), .a, .a, .a, .a, .a, .v (vOf f4) (.e (rOf f2)), .a, .a, .a] [] [.a, .v (vOf f8) (.a)]) (.c (.s (.r [.a, .a, .f (rOf f9)]) (.a))))) (.r [.a, .v (vOf f10) (.a)]))) (.h [.x 1 (vOf f11)] (eOf f12) (stOf f12) (rOf f12))) (by kernel_rfl)
theorem kw_endO (n fu : Nat) (rm cut at_ : Int) (l : List Act5) (ks0 was : List Int) (hl : l.length ≤ 60) (m : List (Int × List Int)) (p : List (Int × Option (List Int))) :
    loopAt Tryd.prog C0 (n + 200) 4 1 0 (fu + 1) (kwE cut at_ l ks0 was .nils l.length) (kwO rm m p) = some (.exit 2, kwX cut at_ l ks0 was .nils l.length, (kwO rm m p)) := by
  have f1 : decide ((↑(List.length l) : Int) < (↑(List.length (ops5 l)) : Int)) = false := by simp
  have f2 : (LX.exit 2, [LV.any, LV.isl 5 (ops5 l), LV.isl 1 (ints ks0), LV.int IntKind.i64 cut, LV.int IntKind.i64 at_, LV.any, LV.any, LV.any, LV.any, LV.any, LV.any, LV.ptr 0 0, LV.any, LV.any, LV.isl 1 (bys was), LV.any, LV.nils, LV.int IntKind.i64 (↑(List.length l) : Int), LV.any, LV.any, LV.any, LV.any, LV.any, LV.any, LV.any, LV.any, LV.any, LV.any, LV.any, LV.any, LV.any, LV.any, LV.any, LV.any, LV.any, LV.any, LV.any, LV.any, LV.any, LV.any, LV.any, LV.any, LV.any, LV.any, LV.any, LV.any, LV.any, LV.any, LV.any, LV.any, LV.any, LV.any, LV.any, LV.any, LV.any, LV.any, LV.any, LV.any, LV.any, LV.any, LV.any, LV.any, LV.any, LV.any, LV.any, LV.any, LV.any, LV.any, LV.any, LV.any, LV.any, LV.any, LV.any, LV.any, LV.any, LV.any, LV.any, LV.any, LV.any, LV.any, LV.any, LV.int IntKind.i64 (↑(List.length l) : Int), LV.isl 5 (ops5 l), LV.int IntKind.i64 (↑(List.length (ops5 l)) : Int), LV.bool (decide ((↑(List.length l) : Int) < (↑(List.length (ops5 l)) : Int))), LV.any, LV.any, LV.any, LV.any, LV.any, LV.any, LV.any, LV.any, LV.any, LV.any, LV.any, LV.any, LV.any, LV.any, LV.any, LV.any, LV.any, LV.any, LV.any, LV.any, LV.any, LV.any, LV.any, LV.any, LV.any, LV.any, LV.any, LV.any, LV.any, LV.any, LV.any, LV.any, LV.any, LV.any, LV.any, LV.any, LV.any, LV.any, LV.any, LV.any, LV.any, LV.any, LV.any, LV.any, LV.any, LV.any, LV.any, LV.any, LV.any, LV.any, LV.any, LV.any, LV.any, LV.any, LV.any, LV.any, LV.any, LV.any, LV.any, LV.any, LV.any, LV.any, LV.any, LV.any, LV.any, LV.any, LV.any, LV.any, LV.any, LV.any, LV.any, LV.any, LV.any, LV.any, LV.any, LV.any, LV.any, LV.any, LV.any, LV.any], St.mk 3 [(0, LObj.box 64 [LV.int IntKind.i64 rm, LV.map 1, LV.sl 2 2 0 (List.length p) none]), (1, LObj.map IntKind.i64 (mapE m)), (2, LObj.row 90 2 (pnds p))]) = (LX.exit 2, kwX cut at_ l ks0 was LV.nils (↑(List.length l) : Int), kwO rm m p) := by simp
  exact dloop_ok (fun h => And.intro (congrArg LV.bool f1) <| f2) (.i (.s (.s (.a) (.b false (.a))) .a) (.a)) (by kernel_rfl)
end Go.Mac

namespace Go.Mac
open Go Go.Eng Go.Proofs
set_option linter.unusedVariables false
set_option maxHeartbeats 0
set_option maxRecDepth 100000
theorem kw_otherS (n fu : Nat) (rm cut at_ : Int) (l : List Act5) (ks0 was : List Int) (hl : l.length ≤ 60) (ha0 : 0 ≤ at_) (ha1 : at_ ≤ 1000) (i : Int) (hi0 : 0 ≤ i) (hi : i < (l.length : Int)) (k a : Int) (b ks : List Int) (c : Int) (hx : (ops5 l)[i.toNat]? = some (.agg [.int .i64 k, .int .i64 a, .isl 1 (bys b), .isl 1 (ints ks), .int .i64 c])) (m : List (Int × List Int)) (p p' : List (Int × Option (List Int))) (hp : p.length ≤ 10000) (W : List (List Int)) (hW : 0 < W.length) (hW2 : W.length ≤ 1000) (k0 : ¬ k = 0) (r : LX × LEnv × St)
    (hr : loopAt Tryd.prog C0 (n + 200) 4 1 0 fu (kwE cut at_ l ks0 was (.sl 1 3 0 W.length none) (i + 1)) (kwT rm m p W) = some r) :
    loopAt Tryd.prog C0 (n + 200) 4 1 0 (fu + 1) (kwE cut at_ l ks0 was (.sl 1 1 0 W.length none) i) (kwS rm m p W) = some r := by
  have f1 : decide (i < (↑(List.length (ops5 l)) : Int)) = true := by (simp [-List.reduceReplicate]; omega)
  have f2 : LV.int IntKind.i64 (↑(List.length (ops5 l)) : Int) = LV.int IntKind.i64 (↑(List.length l) : Int) := by simp
  have f3 : LV.bool (decide (i < (↑(List.length (ops5 l)) : Int))) = LV.bool true := by (simp [-List.reduceReplicate]; omega)
  have f4 : LObj.map IntKind.i64 (List.zip (mapK m) (mapV m)) = LObj.map IntKind.i64 (mapE m) := by simp
  have f5 : LObj.box 64 [LV.int IntKind.i64 rm, LV.map 2, LV.sl 2 3 0 (List.length (pnds p)) none] = LObj.box 64 [LV.int IntKind.i64 rm, LV.map 2, LV.sl 2 3 0 (List.length p) none] := by simp
  have f6 : (ops5 l)[Int.toNat i]? = some (LV.agg [LV.int IntKind.i64 k, LV.int IntKind.i64 a, LV.isl 1 (bys b), LV.isl 1 (ints ks), LV.int IntKind.i64 c]) := hx
  have f7 : 0 ≤ i ∧ i < (↑(List.length (ops5 l)) : Int) := by (simp [-List.reduceReplicate]; omega)
  have f8 : decide (k = 0) = false := by (simp [-List.reduceReplicate]; omega)
  have f9 : lpick (decide (k = 0)) LV.any (LV.bool false) = some (LV.bool false) := by (simp [-List.reduceReplicate]; omega)
  have f10 : LV.int IntKind.i64 (IntKind.wrap IntKind.i64 (i + 1)) = LV.int IntKind.i64 (i + 1) := by simp (disch := omega) [-List.reduceReplicate]
  have f11 := hr
  exact dloop_ok (fun h => And.intro (congrArg LV.bool f1) <| And.intro (f2) <| And.intro (f3) <| And.intro (congrArg some f4) <| And.intro (congrArg some f5) <| And.intro (f7) <| And.intro (f6) <| And.intro (congrArg some f8) <| And.intro (congrArg some f8) <| And.intro (congrArg some f8) <| And.intro (congrArg some f8) <| And.intro (congrArg some f8) <| And.intro (congrArg some f8) <| And.intro (congrArg some f8) <| And.intro (congrArg some f8) <| And.intro (congrArg some f8) <| And.intro (congrArg some f8) <| And.intro (congrArg some f8) <| And.intro (congrArg some f8) <| And.intro (congrArg some f8) <| And.intro (x_mapS (st := (St.mk 4 [(3, LObj.row 90 2 (pnds p)), (2, LObj.map IntKind.i64 (mapE m)), (0, LObj.box 64 [LV.int IntKind.i64 rm, LV.map 2, LV.sl 2 3 0 (List.length p) none]), (1, LObj.row 38 1 (wl W))])) f9 rfl) <| And.intro (f10) <| And.intro (Eq.refl (tidyOf f11)) <| And.intro (f11) <| h) (.i (.s (.s (.a) (.b true (.a))) (.s (.k (.s (.d [.y 83 (vOf f2), .y 84 (vOf f3), .x 2 (vOf f4), .x 0 (vOf f5)] [.a, .a, .e (rOf f6), .a, .a, .a, .a, .g false (.a), .g false (.a), .g false (.a), .g false (.a), .g false (.a), .g false (.a), .g false (.a), .g false (.a), .g false (.a), .g false (.a), .g false (.a), .g false (.a), .g false (.a), .t (rOf (x_mapS (st := (St.mk 4 [(3, LObj.row 90 2 (pnds p)), (2, LObj.map IntKind.i64 (mapE m)), (0, LObj.box 64 [LV.int IntKind.i64 rm, LV.map 2, LV.sl 2 3 0 (List.length p) none]), (1, LObj.row 38 1 (wl W))])) f9 rfl)), .a, .a, .a, .a, .a, .a, .a] [] []) (.a))) (.r [.a, .v (vOf f10) (.a)]))) (.h [] (eOf f11) (stOf f11) (rOf f11))) (by kernel_rfl)
theorem kw_failS (n fu : Nat) (rm cut at_ : Int) (l : List Act5) (ks0 was : List Int) (hl : l.length ≤ 60) (ha0 : 0 ≤ at_) (ha1 : at_ ≤ 1000) (i : Int) (hi0 : 0 ≤ i) (hi : i < (l.length : Int)) (k a : Int) (b ks : List Int) (c : Int) (hx : (ops5 l)[i.toNat]? = some (.agg [.int .i64 k, .int .i64 a, .isl 1 (bys b), .isl 1 (ints ks), .int .i64 c])) (m : List (Int × List Int)) (p p' : List (Int × Option (List Int))) (hp : p.length ≤ 10000) (W : List (List Int)) (hW : 0 < W.length) (hW2 : W.length ≤ 1000) (k0 : k = 0) (op : List UInt8) (ea ec : Int) (D : ∀ j, lrun Tryd.prog C0 (lcall Tryd.prog C0 (j + 20)) (j + 20) 19 [.ptr 0 0, .int .i64 a, .isl 1 (bys b)] ⟨1, [(0, dO rm m p)]⟩ = some (flt op ea ec, ⟨1, [(0, dO rm m p)]⟩)) (r : LX × LEnv × St)
    (hr : loopAt Tryd.prog C0 (n + 200) 4 1 0 fu (kwE cut at_ l ks0 was (.sl 1 1 0 W.length none) (i + 1)) (kwS rm m p W) = some r) :
    loopAt Tryd.prog C0 (n + 200) 4 1 0 (fu + 1) (kwE cut at_ l ks0 was (.sl 1 1 0 W.length none) i) (kwS rm m p W) = some r := by
  have f1 : decide (i < (↑(List.length (ops5 l)) : Int)) = true := by (simp [-List.reduceReplicate]; omega)
  have f2 : LV.int IntKind.i64 (↑(List.length (ops5 l)) : Int) = LV.int IntKind.i64 (↑(List.length l) : Int) := by simp
  have f3 : LV.bool (decide (i < (↑(List.length (ops5 l)) : Int))) = LV.bool true := by (simp [-List.reduceReplicate]; omega)
  have f4 : LObj.map IntKind.i64 (List.zip (mapK m) (mapV m)) = LObj.map IntKind.i64 (mapE m) := by simp
  have f5 : LObj.box 64 [LV.int IntKind.i64 rm, LV.map 2, LV.sl 2 3 0 (List.length (pnds p)) none] = LObj.box 64 [LV.int IntKind.i64 rm, LV.map 2, LV.sl 2 3 0 (List.length p) none] := by simp
  have f6 : (ops5 l)[Int.toNat i]? = some (LV.agg [LV.int IntKind.i64 k, LV.int IntKind.i64 a, LV.isl 1 (bys b), LV.isl 1 (ints ks), LV.int IntKind.i64 c]) := hx
  have f7 : 0 ≤ i ∧ i < (↑(List.length (ops5 l)) : Int) := by (simp [-List.reduceReplicate]; omega)
  have f8 : LV.irp (LV.agg [LV.int IntKind.i64 k, LV.int IntKind.i64 a, LV.isl 1 (bys b), LV.isl 1 (ints ks), LV.int IntKind.i64 c]) = LV.irp (LV.agg [LV.int IntKind.i64 0, LV.int IntKind.i64 a, LV.isl 1 (bys b), LV.isl 1 (ints ks), LV.int IntKind.i64 c]) := by (simp [-List.reduceReplicate]; omega)
  have f9 : List.length (pnds p) = List.length p := by simp
  have f10 : LObj.box 64 [LV.int IntKind.i64 rm, LV.omap IntKind.i64 (List.map (fun x => Prod.fst x) (mapE m)) (List.map (fun x => Prod.snd x) (mapE m)), LV.own 90 2 (pnds p)] = LObj.box 64 [LV.int IntKind.i64 rm, LV.omap IntKind.i64 (mapK m) (mapV m), LV.own 90 2 (pnds p)] := by simp
  have f11 := D (n + 179)
  have f12 : LV.int IntKind.i64 (IntKind.wrap IntKind.i64 (i + 1)) = LV.int IntKind.i64 (i + 1) := by simp (disch := omega) [-List.reduceReplicate]
  have f13 := hr
  exact dloop_ok (fun h => And.intro (congrArg LV.bool f1) <| And.intro (f2) <| And.intro (f3) <| And.intro (congrArg some f4) <| And.intro (congrArg some f5) <| And.intro (f7) <| And.intro (f6) <| And.intro (f8) <| And.intro (f7) <| And.intro (f6) <| And.intro (f8) <| And.intro (f7) <| And.intro (f6) <| And.intro (f8) <| And.intro (f9) <| And.intro (congrArg some f10) <| And.intro (f11) <| And.intro (f12) <| And.intro (Eq.refl (tidyOf f13)) <| And.intro (f13) <| h) (.i (.s (.s (.a) (.b true (.a))) (.s (.k (.s (.d [.y 83 (vOf f2), .y 84 (vOf f3), .x 2 (vOf f4), .x 0 (vOf f5)] [.a, .a, .v (vOf f8) (.e (rOf f6)), .a, .a, .a, .a, .a, .a, .a, .v (vOf f8) (.e (rOf f6)), .a, .a, .a, .a, .v (vOf f8) (.e (rOf f6)), .a, .a, .fr .q [.x 0 (vOf f10)] (rOf f11), .a, .a, .a, .a, .a, .a, .a, .a, .a] [] []) (.a))) (.r [.a, .v (vOf f12) (.a)]))) (.h [] (eOf f13) (stOf f13) (rOf f13))) (by kernel_rfl)
theorem kw_elseS (n fu : Nat) (rm cut at_ : Int) (l : List Act5) (ks0 was : List Int) (hl : l.length ≤ 60) (ha0 : 0 ≤ at_) (ha1 : at_ ≤ 1000) (i : Int) (hi0 : 0 ≤ i) (hi : i < (l.length : Int)) (k a : Int) (b ks : List Int) (c : Int) (hx : (ops5 l)[i.toNat]? = some (.agg [.int .i64 k, .int .i64 a, .isl 1 (bys b), .isl 1 (ints ks), .int .i64 c])) (m : List (Int × List Int)) (p p' : List (Int × Option (List Int))) (hp : p.length ≤ 10000) (W : List (List Int)) (hW : 0 < W.length) (hW2 : W.length ≤ 1000) (k0 : k = 0) (hne : ¬ a = at_) (D : ∀ j, lrun Tryd.prog C0 (lcall Tryd.prog C0 (j + 20)) (j + 20) 19 [.ptr 0 0, .int .i64 a, .isl 1 (bys b)] ⟨1, [(0, dO rm m p)]⟩ = some (.nili, ⟨1, [(0, dO rm m p')]⟩)) (r : LX × LEnv × St)
    (hr : loopAt Tryd.prog C0 (n + 200) 4 1 0 fu (kwE cut at_ l ks0 was (.sl 1 1 0 W.length none) (i + 1)) (kwS rm m p' W) = some r) :
    loopAt Tryd.prog C0 (n + 200) 4 1 0 (fu + 1) (kwE cut at_ l ks0 was (.sl 1 1 0 W.length none) i) (kwS rm m p W) = some r := by
  have f1 : decide (i < (↑(List.length (ops5 l)) : Int)) = true := by (simp [-List.reduceReplicate]; omega)
  have f2 : LV.int IntKind.i64 (↑(List.length (ops5 l)) : Int) = LV.int IntKind.i64 (↑(List.length l) : Int) := by simp
  have f3 : LV.bool (decide (i < (↑(List.length (ops5 l)) : Int))) = LV.bool true := by (simp [-List.reduceReplicate]; omega)
  have f4 : LObj.map IntKind.i64 (List.zip (mapK m) (mapV m)) = LObj.map IntKind.i64 (mapE m) := by simp
  have f5 : LObj.box 64 [LV.int IntKind.i64 rm, LV.map 2, LV.sl 2 3 0 (List.length (pnds p)) none] = LObj.box 64 [LV.int IntKind.i64 rm, LV.map 2, LV.sl 2 3 0 (List.length p) none] := by simp
  have f6 : (ops5 l)[Int.toNat i]? = some (LV.agg [LV.int IntKind.i64 k, LV.int IntKind.i64 a, LV.isl 1 (bys b), LV.isl 1 (ints ks), LV.int IntKind.i64 c]) := hx
  have f7 : 0 ≤ i ∧ i < (↑(List.length (ops5 l)) : Int) := by (simp [-List.reduceReplicate]; omega)
  have f8 : LV.irp (LV.agg [LV.int IntKind.i64 k, LV.int IntKind.i64 a, LV.isl 1 (bys b), LV.isl 1 (ints ks), LV.int IntKind.i64 c]) = LV.irp (LV.agg [LV.int IntKind.i64 0, LV.int IntKind.i64 a, LV.isl 1 (bys b), LV.isl 1 (ints ks), LV.int IntKind.i64 c]) := by (simp [-List.reduceReplicate]; omega)
  have f9 : List.length (pnds p) = List.length p := by simp
  have f10 : LObj.box 64 [LV.int IntKind.i64 rm, LV.omap IntKind.i64 (List.map (fun x => Prod.fst x) (mapE m)) (List.map (fun x => Prod.snd x) (mapE m)), LV.own 90 2 (pnds p)] = LObj.box 64 [LV.int IntKind.i64 rm, LV.omap IntKind.i64 (mapK m) (mapV m), LV.own 90 2 (pnds p)] := by simp
  have f11 := D (n + 179)
  have f12 : LV.bool (if true = true then decide (a = at_) else false) = LV.bool false := by (simp [-List.reduceReplicate]; omega)
  have f13 : LV.int IntKind.i64 (IntKind.wrap IntKind.i64 (i + 1)) = LV.int IntKind.i64 (i + 1) := by simp (disch := omega) [-List.reduceReplicate]
  have f14 := hr
  exact dloop_ok (fun h => And.intro (congrArg LV.bool f1) <| And.intro (f2) <| And.intro (f3) <| And.intro (congrArg some f4) <| And.intro (congrArg some f5) <| And.intro (f7) <| And.intro (f6) <| And.intro (f8) <| And.intro (f7) <| And.intro (f6) <| And.intro (f8) <| And.intro (f7) <| And.intro (f6) <| And.intro (f8) <| And.intro (f9) <| And.intro (congrArg some f10) <| And.intro (f11) <| And.intro (f7) <| And.intro (f6) <| And.intro (f8) <| And.intro (f12) <| And.intro (f13) <| And.intro (Eq.refl (tidyOf f14)) <| And.intro (f14) <| h) (.i (.s (.s (.a) (.b true (.a))) (.s (.k (.s (.d [.y 83 (vOf f2), .y 84 (vOf f3), .x 2 (vOf f4), .x 0 (vOf f5)] [.a, .a, .v (vOf f8) (.e (rOf f6)), .a, .a, .a, .a, .a, .a, .a, .v (vOf f8) (.e (rOf f6)), .a, .a, .a, .a, .v (vOf f8) (.e (rOf f6)), .a, .a, .fr .q [.x 0 (vOf f10)] (rOf f11), .a, .a, .a, .a, .a, .v (vOf f8) (.e (rOf f6)), .a, .a, .a] [] [.a, .v (vOf f12) (.a)]) (.a))) (.r [.a, .v (vOf f13) (.a)]))) (.h [] (eOf f14) (stOf f14) (rOf f14))) (by kernel_rfl)
theorem kw_hitS (n fu : Nat) (rm cut at_ : Int) (l : List Act5) (ks0 was : List Int) (hl : l.length ≤ 60) (ha0 : 0 ≤ at_) (ha1 : at_ ≤ 1000) (i : Int) (hi0 : 0 ≤ i) (hi : i < (l.length : Int)) (k : Int) (b ks : List Int) (c : Int) (hx : (ops5 l)[i.toNat]? = some (.agg [.int .i64 k, .int .i64 at_, .isl 1 (bys b), .isl 1 (ints ks), .int .i64 c])) (m : List (Int × List Int)) (p p' : List (Int × Option (List Int))) (hp : p.length ≤ 10000) (W : List (List Int)) (hW : 0 < W.length) (hW2 : W.length ≤ 1000) (k0 : k = 0) (v : List Int) (hv : v.length = 64) (D : ∀ j, lrun Tryd.prog C0 (lcall Tryd.prog C0 (j + 20)) (j + 20) 19 [.ptr 0 0, .int .i64 at_, .isl 1 (bys b)] ⟨1, [(0, dO rm m p)]⟩ = some (.nili, ⟨1, [(0, dO rm m p')]⟩)) (R : ∀ j, lrun Tryd.prog C0 (lcall Tryd.prog C0 (j)) (j) 18 [.ptr 0 0, .int .i64 at_] ⟨1, [(0, dO rm m p')]⟩ = some (.tup [.isl 1 (bys v), .nili], ⟨1, [(0, dO rm m p')]⟩)) (r : LX × LEnv × St)
    (hr : loopAt Tryd.prog C0 (n + 200) 4 1 0 fu (kwE cut at_ l ks0 was (.sl 1 1 0 (W.length + 1) none) (i + 1)) (kwS rm m p' (W ++ [v])) = some r) :
    loopAt Tryd.prog C0 (n + 200) 4 1 0 (fu + 1) (kwE cut at_ l ks0 was (.sl 1 1 0 W.length none) i) (kwS rm m p W) = some r := by
  have f1 : decide (i < (↑(List.length (ops5 l)) : Int)) = true := by (simp [-List.reduceReplicate]; omega)
  have f2 : LV.int IntKind.i64 (↑(List.length (ops5 l)) : Int) = LV.int IntKind.i64 (↑(List.length l) : Int) := by simp
  have f3 : LV.bool (decide (i < (↑(List.length (ops5 l)) : Int))) = LV.bool true := by (simp [-List.reduceReplicate]; omega)
  have f4 : LObj.map IntKind.i64 (List.zip (mapK m) (mapV m)) = LObj.map IntKind.i64 (mapE m) := by simp
  have f5 : LObj.box 64 [LV.int IntKind.i64 rm, LV.map 2, LV.sl 2 3 0 (List.length (pnds p)) none] = LObj.box 64 [LV.int IntKind.i64 rm, LV.map 2, LV.sl 2 3 0 (List.length p) none] := by simp
  have f6 : (ops5 l)[Int.toNat i]? = some (LV.agg [LV.int IntKind.i64 k, LV.int IntKind.i64 at_, LV.isl 1 (bys b), LV.isl 1 (ints ks), LV.int IntKind.i64 c]) := hx
  have f7 : 0 ≤ i ∧ i < (↑(List.length (ops5 l)) : Int) := by (simp [-List.reduceReplicate]; omega)
  have f8 : LV.irp (LV.agg [LV.int IntKind.i64 k, LV.int IntKind.i64 at_, LV.isl 1 (bys b), LV.isl 1 (ints ks), LV.int IntKind.i64 c]) = LV.irp (LV.agg [LV.int IntKind.i64 0, LV.int IntKind.i64 at_, LV.isl 1 (bys b), LV.isl 1 (ints ks), LV.int IntKind.i64 c]) := by (simp [-List.reduceReplicate]; omega)
  have f9 : List.length (pnds p) = List.length p := by simp
  have f10 : LObj.box 64 [LV.int IntKind.i64 rm, LV.omap IntKind.i64 (List.map (fun x => Prod.fst x) (mapE m)) (List.map (fun x => Prod.snd x) (mapE m)), LV.own 90 2 (pnds p)] = LObj.box 64 [LV.int IntKind.i64 rm, LV.omap IntKind.i64 (mapK m) (mapV m), LV.own 90 2 (pnds p)] := by simp
  have f11 := D (n + 179)
  have f12 : LV.bool (if true = true then decide (at_ = at_) else false) = LV.bool true := by simp
  have f13 := R (n + 199)
  have f14 : 1 ≤ 1 := by omega
  have f15 : List.length (wl W) = List.length W ∧ (List.length W + 1) * 24 ≤ 140737488355328 := by (simp [-List.reduceReplicate]; omega)
  have f16 : LObj.row 38 1 (wl W ++ List.take 1 (List.drop 0 (List.set [LV.nils] 0 (LV.isl 1 (bys v))))) = LObj.row 38 1 (wl (W ++ [v])) := by simp
  have f17 : LObj.row 38 1 (List.set [LV.nils] 0 (LV.isl 1 (bys v))) = LObj.row 38 1 [LV.isl 1 (bys v)] := by simp
  have f18 : LV.int IntKind.i64 (IntKind.wrap IntKind.i64 (i + 1)) = LV.int IntKind.i64 (i + 1) := by simp (disch := omega) [-List.reduceReplicate]
  have f19 := hr
  exact dloop_ok (fun h => And.intro (congrArg LV.bool f1) <| And.intro (f2) <| And.intro (f3) <| And.intro (congrArg some f4) <| And.intro (congrArg some f5) <| And.intro (f7) <| And.intro (f6) <| And.intro (f8) <| And.intro (f7) <| And.intro (f6) <| And.intro (f8) <| And.intro (f7) <| And.intro (f6) <| And.intro (f8) <| And.intro (f9) <| And.intro (congrArg some f10) <| And.intro (f11) <| And.intro (f7) <| And.intro (f6) <| And.intro (f8) <| And.intro (f12) <| And.intro (f13) <| And.intro (f14) <| And.intro (f15) <| And.intro (congrArg some f16) <| And.intro (congrArg some f17) <| And.intro (f18) <| And.intro (Eq.refl (tidyOf f19)) <| And.intro (f19) <| h) (.i (.s (.s (.a) (.b true (.a))) (.s (.k (.s (.d [.y 83 (vOf f2), .y 84 (vOf f3), .x 2 (vOf f4), .x 0 (vOf f5)] [.a, .a, .v (vOf f8) (.e (rOf f6)), .a, .a, .a, .a, .a, .a, .a, .v (vOf f8) (.e (rOf f6)), .a, .a, .a, .a, .v (vOf f8) (.e (rOf f6)), .a, .a, .fr .q [.x 0 (vOf f10)] (rOf f11), .a, .a, .a, .a, .a, .v (vOf f8) (.e (rOf f6)), .a, .a, .a] [] [.a, .v (vOf f12) (.a)]) (.c (.s (.r [.a, .a, .f (rOf f13)]) (.r [.a, .a, .a, .x 4 (vOf f17) (.x 5 (vOf f16) (.q))]))))) (.r [.a, .v (vOf f18) (.a)]))) (.h [] (eOf f19) (stOf f19) (rOf f19))) (by kernel_rfl)
theorem kw_endS (n fu : Nat) (rm cut at_ : Int) (l : List Act5) (ks0 was : List Int) (hl : l.length ≤ 60) (m : List (Int × List Int)) (p : List (Int × Option (List Int))) (W : List (List Int)) (hW : 0 < W.length) (hW2 : W.length ≤ 1000) :
    loopAt Tryd.prog C0 (n + 200) 4 1 0 (fu + 1) (kwE cut at_ l ks0 was (.sl 1 1 0 W.length none) l.length) (kwS rm m p W) = some (.exit 2, kwX cut at_ l ks0 was (.sl 1 1 0 W.length none) l.length, (kwS rm m p W)) := by
  have f1 : decide ((↑(List.length l) : Int) < (↑(List.length (ops5 l)) : Int)) = false := by simp
  have f2 : (LX.exit 2, [LV.any, LV.isl 5 (ops5 l), LV.isl 1 (ints ks0), LV.int IntKind.i64 cut, LV.int IntKind.i64 at_, LV.any, LV.any, LV.any, LV.any, LV.any, LV.any, LV.ptr 0 0, LV.any, LV.any, LV.isl 1 (bys was), LV.any, LV.sl 1 1 0 (List.length W) none, LV.int IntKind.i64 (↑(List.length l) : Int), LV.any, LV.any, LV.any, LV.any, LV.any, LV.any, LV.any, LV.any, LV.any, LV.any, LV.any, LV.any, LV.any, LV.any, LV.any, LV.any, LV.any, LV.any, LV.any, LV.any, LV.any, LV.any, LV.any, LV.any, LV.any, LV.any, LV.any, LV.any, LV.any, LV.any, LV.any, LV.any, LV.any, LV.any, LV.any, LV.any, LV.any, LV.any, LV.any, LV.any, LV.any, LV.any, LV.any, LV.any, LV.any, LV.any, LV.any, LV.any, LV.any, LV.any, LV.any, LV.any, LV.any, LV.any, LV.any, LV.any, LV.any, LV.any, LV.any, LV.any, LV.any, LV.any, LV.any, LV.int IntKind.i64 (↑(List.length l) : Int), LV.isl 5 (ops5 l), LV.int IntKind.i64 (↑(List.length (ops5 l)) : Int), LV.bool (decide ((↑(List.length l) : Int) < (↑(List.length (ops5 l)) : Int))), LV.any, LV.any, LV.any, LV.any, LV.any, LV.any, LV.any, LV.any, LV.any, LV.any, LV.any, LV.any, LV.any, LV.any, LV.any, LV.any, LV.any, LV.any, LV.any, LV.any, LV.any, LV.any, LV.any, LV.any, LV.any, LV.any, LV.any, LV.any, LV.any, LV.any, LV.any, LV.any, LV.any, LV.any, LV.any, LV.any, LV.any, LV.any, LV.any, LV.any, LV.any, LV.any, LV.any, LV.any, LV.any, LV.any, LV.any, LV.any, LV.any, LV.any, LV.any, LV.any, LV.any, LV.any, LV.any, LV.any, LV.any, LV.any, LV.any, LV.any, LV.any, LV.any, LV.any, LV.any, LV.any, LV.any, LV.any, LV.any, LV.any, LV.any, LV.any, LV.any, LV.any, LV.any, LV.any, LV.any, LV.any, LV.any, LV.any, LV.any], St.mk 2 [(0, LObj.box 64 [LV.int IntKind.i64 rm, LV.omap IntKind.i64 (mapK m) (mapV m), LV.own 90 2 (pnds p)]), (1, LObj.row 38 1 (wl W))]) = (LX.exit 2, kwX cut at_ l ks0 was (LV.sl 1 1 0 (List.length W) none) (↑(List.length l) : Int), kwS rm m p W) := by simp
  exact dloop_ok (fun h => And.intro (congrArg LV.bool f1) <| f2) (.i (.s (.s (.a) (.b false (.a))) .a) (.a)) (by kernel_rfl)
theorem kw_otherT (n fu : Nat) (rm cut at_ : Int) (l : List Act5) (ks0 was : List Int) (hl : l.length ≤ 60) (ha0 : 0 ≤ at_) (ha1 : at_ ≤ 1000) (i : Int) (hi0 : 0 ≤ i) (hi : i < (l.length : Int)) (k a : Int) (b ks : List Int) (c : Int) (hx : (ops5 l)[i.toNat]? = some (.agg [.int .i64 k, .int .i64 a, .isl 1 (bys b), .isl 1 (ints ks), .int .i64 c])) (m : List (Int × List Int)) (p p' : List (Int × Option (List Int))) (hp : p.length ≤ 10000) (W : List (List Int)) (hW : 0 < W.length) (hW2 : W.length ≤ 1000) (k0 : ¬ k = 0) (r : LX × LEnv × St)
    (hr : loopAt Tryd.prog C0 (n + 200) 4 1 0 fu (kwE cut at_ l ks0 was (.sl 1 3 0 W.length none) (i + 1)) (kwT rm m p W) = some r) :
    loopAt Tryd.prog C0 (n + 200) 4 1 0 (fu + 1) (kwE cut at_ l ks0 was (.sl 1 3 0 W.length none) i) (kwT rm m p W) = some r := by
  have f1 : decide (i < (↑(List.length (ops5 l)) : Int)) = true := by (simp [-List.reduceReplicate]; omega)
  have f2 : (ops5 l)[Int.toNat i]? = some (LV.agg [LV.int IntKind.i64 k, LV.int IntKind.i64 a, LV.isl 1 (bys b), LV.isl 1 (ints ks), LV.int IntKind.i64 c]) := hx
  have f3 : 0 ≤ i ∧ i < (↑(List.length (ops5 l)) : Int) := by (simp [-List.reduceReplicate]; omega)
  have f4 : decide (k = 0) = false := by (simp [-List.reduceReplicate]; omega)
  have f5 : lpick (decide (k = 0)) LV.any (LV.bool false) = some (LV.bool false) := by (simp [-List.reduceReplicate]; omega)
  have f6 : LV.int IntKind.i64 (IntKind.wrap IntKind.i64 (i + 1)) = LV.int IntKind.i64 (i + 1) := by simp (disch := omega) [-List.reduceReplicate]
  have f7 := hr
  exact dloop_ok (fun h => And.intro (congrArg LV.bool f1) <| And.intro (f3) <| And.intro (f2) <| And.intro (congrArg some f4) <| And.intro (congrArg some f4) <| And.intro (congrArg some f4) <| And.intro (congrArg some f4) <| And.intro (congrArg some f4) <| And.intro (congrArg some f4) <| And.intro (congrArg some f4) <| And.intro (congrArg some f4) <| And.intro (congrArg some f4) <| And.intro (congrArg some f4) <| And.intro (congrArg some f4) <| And.intro (congrArg some f4) <| And.intro (congrArg some f4) <| And.intro (x_mapS (st := (St.mk 4 [(0, LObj.box 64 [LV.int IntKind.i64 rm, LV.map 1, LV.sl 2 2 0 (List.length p) none]), (1, LObj.map IntKind.i64 (mapE m)), (2, LObj.row 90 2 (pnds p)), (3, LObj.row 38 1 (wl W))])) f5 rfl) <| And.intro (f6) <| And.intro (Eq.refl (tidyOf f7)) <| And.intro (f7) <| h) (.i (.s (.s (.a) (.b true (.a))) (.s (.k (.s (.d [] [.a, .a, .e (rOf f2), .a, .a, .a, .a, .g false (.a), .g false (.a), .g false (.a), .g false (.a), .g false (.a), .g false (.a), .g false (.a), .g false (.a), .g false (.a), .g false (.a), .g false (.a), .g false (.a), .g false (.a), .t (rOf (x_mapS (st := (St.mk 4 [(0, LObj.box 64 [LV.int IntKind.i64 rm, LV.map 1, LV.sl 2 2 0 (List.length p) none]), (1, LObj.map IntKind.i64 (mapE m)), (2, LObj.row 90 2 (pnds p)), (3, LObj.row 38 1 (wl W))])) f5 rfl)), .a, .a, .a, .a, .a, .a, .a] [] []) (.a))) (.r [.a, .v (vOf f6) (.a)]))) (.h [] (eOf f7) (stOf f7) (rOf f7))) (by kernel_rfl)
theorem kw_failT (n fu : Nat) (rm cut at_ : Int) (l : List Act5) (ks0 was : List Int) (hl : l.length ≤ 60) (ha0 : 0 ≤ at_) (ha1 : at_ ≤ 1000) (i : Int) (hi0 : 0 ≤ i) (hi : i < (l.length : Int)) (k a : Int) (b ks : List Int) (c : Int) (hx : (ops5 l)[i.toNat]? = some (.agg [.int .i64 k, .int .i64 a, .isl 1 (bys b), .isl 1 (ints ks), .int .i64 c])) (m : List (Int × List Int)) (p p' : List (Int × Option (List Int))) (hp : p.length ≤ 10000) (W : List (List Int)) (hW : 0 < W.length) (hW2 : W.length ≤ 1000) (k0 : k = 0) (op : List UInt8) (ea ec : Int) (D : ∀ j, lrun Tryd.prog C0 (lcall Tryd.prog C0 (j + 20)) (j + 20) 19 [.ptr 0 0, .int .i64 a, .isl 1 (bys b)] ⟨1, [(0, dO rm m p)]⟩ = some (flt op ea ec, ⟨1, [(0, dO rm m p)]⟩)) (r : LX × LEnv × St)
    (hr : loopAt Tryd.prog C0 (n + 200) 4 1 0 fu (kwE cut at_ l ks0 was (.sl 1 1 0 W.length none) (i + 1)) (kwS rm m p W) = some r) :
    loopAt Tryd.prog C0 (n + 200) 4 1 0 (fu + 1) (kwE cut at_ l ks0 was (.sl 1 3 0 W.length none) i) (kwT rm m p W) = some r := by
  have f1 : decide (i < (↑(List.length (ops5 l)) : Int)) = true := by (simp [-List.reduceReplicate]; omega)
  have f2 : (ops5 l)[Int.toNat i]? = some (LV.agg [LV.int IntKind.i64 k, LV.int IntKind.i64 a, LV.isl 1 (bys b), LV.isl 1 (ints ks), LV.int IntKind.i64 c]) := hx
  have f3 : 0 ≤ i ∧ i < (↑(List.length (ops5 l)) : Int) := by (simp [-List.reduceReplicate]; omega)
  have f4 : LV.irp (LV.agg [LV.int IntKind.i64 k, LV.int IntKind.i64 a, LV.isl 1 (bys b), LV.isl 1 (ints ks), LV.int IntKind.i64 c]) = LV.irp (LV.agg [LV.int IntKind.i64 0, LV.int IntKind.i64 a, LV.isl 1 (bys b), LV.isl 1 (ints ks), LV.int IntKind.i64 c]) := by (simp [-List.reduceReplicate]; omega)
  have f5 : List.length (pnds p) = List.length p := by simp
  have f6 : LObj.box 64 [LV.int IntKind.i64 rm, LV.omap IntKind.i64 (List.map (fun x => Prod.fst x) (mapE m)) (List.map (fun x => Prod.snd x) (mapE m)), LV.own 90 2 (pnds p)] = LObj.box 64 [LV.int IntKind.i64 rm, LV.omap IntKind.i64 (mapK m) (mapV m), LV.own 90 2 (pnds p)] := by simp
  have f7 := D (n + 179)
  have f8 : LV.int IntKind.i64 (IntKind.wrap IntKind.i64 (i + 1)) = LV.int IntKind.i64 (i + 1) := by simp (disch := omega) [-List.reduceReplicate]
  have f9 := hr
  exact dloop_ok (fun h => And.intro (congrArg LV.bool f1) <| And.intro (f3) <| And.intro (f2) <| And.intro (f4) <| And.intro (f3) <| And.intro (f2) <| And.intro (f4) <| And.intro (f3) <| And.intro (f2) <| And.intro (f4) <| And.intro (f5) <| And.intro (congrArg some f6) <| And.intro (f7) <| And.intro (f8) <| And.intro (Eq.refl (tidyOf f9)) <| And.intro (f9) <| h) (.i (.s (.s (.a) (.b true (.a))) (.s (.k (.s (.d [] [.a, .a, .v (vOf f4) (.e (rOf f2)), .a, .a, .a, .a, .a, .a, .a, .v (vOf f4) (.e (rOf f2)), .a, .a, .a, .a, .v (vOf f4) (.e (rOf f2)), .a, .a, .fr .q [.x 0 (vOf f6)] (rOf f7), .a, .a, .a, .a, .a, .a, .a, .a, .a] [] []) (.a))) (.r [.a, .v (vOf f8) (.a)]))) (.h [] (eOf f9) (stOf f9) (rOf f9))) (by kernel_rfl)
theorem kw_elseT (n fu : Nat) (rm cut at_ : Int) (l : List Act5) (ks0 was : List Int) (hl : l.length ≤ 60) (ha0 : 0 ≤ at_) (ha1 : at_ ≤ 1000) (i : Int) (hi0 : 0 ≤ i) (hi : i < (l.length : Int)) (k a : Int) (b ks : List Int) (c : Int) (hx : (ops5 l)[i.toNat]? = some (.agg [.int .i64 k, .int .i64 a, .isl 1 (bys b), .isl 1 (ints ks), .int .i64 c])) (m : List (Int × List Int)) (p p' : List (Int × Option (List Int))) (hp : p.length ≤ 10000) (W : List (List Int)) (hW : 0 < W.length) (hW2 : W.length ≤ 1000) (k0 : k = 0) (hne : ¬ a = at_) (D : ∀ j, lrun Tryd.prog C0 (lcall Tryd.prog C0 (j + 20)) (j + 20) 19 [.ptr 0 0, .int .i64 a, .isl 1 (bys b)] ⟨1, [(0, dO rm m p)]⟩ = some (.nili, ⟨1, [(0, dO rm m p')]⟩)) (r : LX × LEnv × St)
    (hr : loopAt Tryd.prog C0 (n + 200) 4 1 0 fu (kwE cut at_ l ks0 was (.sl 1 1 0 W.length none) (i + 1)) (kwS rm m p' W) = some r) :
    loopAt Tryd.prog C0 (n + 200) 4 1 0 (fu + 1) (kwE cut at_ l ks0 was (.sl 1 3 0 W.length none) i) (kwT rm m p W) = some r := by
  have f1 : decide (i < (↑(List.length (ops5 l)) : Int)) = true := by (simp [-List.reduceReplicate]; omega)
  have f2 : (ops5 l)[Int.toNat i]? = some (LV.agg [LV.int IntKind.i64 k, LV.int IntKind.i64 a, LV.isl 1 (bys b), LV.isl 1 (ints ks), LV.int IntKind.i64 c]) := hx
  have f3 : 0 ≤ i ∧ i < (↑(List.length (ops5 l)) : Int) := by (simp [-List.reduceReplicate]; omega)
  have f4 : LV.irp (LV.agg [LV.int IntKind.i64 k, LV.int IntKind.i64 a, LV.isl 1 (bys b), LV.isl 1 (ints ks), LV.int IntKind.i64 c]) = LV.irp (LV.agg [LV.int IntKind.i64 0, LV.int IntKind.i64 a, LV.isl 1 (bys b), LV.isl 1 (ints ks), LV.int IntKind.i64 c]) := by (simp [-List.reduceReplicate]; omega)
  have f5 : List.length (pnds p) = List.length p := by simp
  have f6 : LObj.box 64 [LV.int IntKind.i64 rm, LV.omap IntKind.i64 (List.map (fun x => Prod.fst x) (mapE m)) (List.map (fun x => Prod.snd x) (mapE m)), LV.own 90 2 (pnds p)] = LObj.box 64 [LV.int IntKind.i64 rm, LV.omap IntKind.i64 (mapK m) (mapV m), LV.own 90 2 (pnds p)] := by simp
  have f7 := D (n + 179)
  have f8 : LV.bool (if true = true then decide (a = at_) else false) = LV.bool false := by (simp [-List.reduceReplicate]; omega)
  have f9 : LV.int IntKind.i64 (IntKind.wrap IntKind.i64 (i + 1)) = LV.int IntKind.i64 (i + 1) := by simp (disch := omega) [-List.reduceReplicate]
  have f10 := hr
  exact dloop_ok (fun h => And.intro (congrArg LV.bool f1) <| And.intro (f3) <| And.intro (f2) <| And.intro (f4) <| And.intro (f3) <| And.intro (f2) <| And.intro (f4) <| And.intro (f3) <| And.intro (f2) <| And.intro (f4) <| And.intro (f5) <| And.intro (congrArg some f6) <| And.intro (f7) <| And.intro (f3) <| And.intro (f2) <| And.intro (f4) <| And.intro (f8) <| And.intro (f9) <| And.intro (Eq.refl (tidyOf f10)) <| And.intro (f10) <| h) (.i (.s (.s (.a) (.b true (.a))) (.s (.k (.s (.d [] [.a, .a, .v (vOf f4) (.e (rOf f2)), .a, .a, .a, .a, .a, .a, .a, .v (vOf f4) (.e (rOf f2)), .a, .a, .a, .a, .v (vOf f4) (.e (rOf f2)), .a, .a, .fr .q [.x 0 (vOf f6)] (rOf f7), .a, .a, .a, .a, .a, .v (vOf f4) (.e (rOf f2)), .a, .a, .a] [] [.a, .v (vOf f8) (.a)]) (.a))) (.r [.a, .v (vOf f9) (.a)]))) (.h [] (eOf f10) (stOf f10) (rOf f10))) (by kernel_rfl)
theorem kw_hitT (n fu : Nat) (rm cut at_ : Int) (l : List Act5) (ks0 was : List Int) (hl : l.length ≤ 60) (ha0 : 0 ≤ at_) (ha1 : at_ ≤ 1000) (i : Int) (hi0 : 0 ≤ i) (hi : i < (l.length : Int)) (k : Int) (b ks : List Int) (c : Int) (hx : (ops5 l)[i.toNat]? = some (.agg [.int .i64 k, .int .i64 at_, .isl 1 (bys b), .isl 1 (ints ks), .int .i64 c])) (m : List (Int × List Int)) (p p' : List (Int × Option (List Int))) (hp : p.length ≤ 10000) (W : List (List Int)) (hW : 0 < W.length) (hW2 : W.length ≤ 1000) (k0 : k = 0) (v : List Int) (hv : v.length = 64) (D : ∀ j, lrun Tryd.prog C0 (lcall Tryd.prog C0 (j + 20)) (j + 20) 19 [.ptr 0 0, .int .i64 at_, .isl 1 (bys b)] ⟨1, [(0, dO rm m p)]⟩ = some (.nili, ⟨1, [(0, dO rm m p')]⟩)) (R : ∀ j, lrun Tryd.prog C0 (lcall Tryd.prog C0 (j)) (j) 18 [.ptr 0 0, .int .i64 at_] ⟨1, [(0, dO rm m p')]⟩ = some (.tup [.isl 1 (bys v), .nili], ⟨1, [(0, dO rm m p')]⟩)) (r : LX × LEnv × St)
    (hr : loopAt Tryd.prog C0 (n + 200) 4 1 0 fu (kwE cut at_ l ks0 was (.sl 1 1 0 (W.length + 1) none) (i + 1)) (kwS rm m p' (W ++ [v])) = some r) :
    loopAt Tryd.prog C0 (n + 200) 4 1 0 (fu + 1) (kwE cut at_ l ks0 was (.sl 1 3 0 W.length none) i) (kwT rm m p W) = some r := by
  have f1 : decide (i < (↑(List.length (ops5 l)) : Int)) = true := by (simp [-List.reduceReplicate]; omega)
  have f2 : (ops5 l)[Int.toNat i]? = some (LV.agg [LV.int IntKind.i64 k, LV.int IntKind.i64 at_, LV.isl 1 (bys b), LV.isl 1 (ints ks), LV.int IntKind.i64 c]) := hx
  have f3 : 0 ≤ i ∧ i < (↑(List.length (ops5 l)) : Int) := by (simp [-List.reduceReplicate]; omega)
  have f4 : LV.irp (LV.agg [LV.int IntKind.i64 k, LV.int IntKind.i64 at_, LV.isl 1 (bys b), LV.isl 1 (ints ks), LV.int IntKind.i64 c]) = LV.irp (LV.agg [LV.int IntKind.i64 0, LV.int IntKind.i64 at_, LV.isl 1 (bys b), LV.isl 1 (ints ks), LV.int IntKind.i64 c]) := by (simp [-List.reduceReplicate]; omega)
  have f5 : List.length (pnds p) = List.length p := by simp
  have f6 : LObj.box 64 [LV.int IntKind.i64 rm, LV.omap IntKind.i64 (List.map (fun x => Prod.fst x) (mapE m)) (List.map (fun x => Prod.snd x) (mapE m)), LV.own 90 2 (pnds p)] = LObj.box 64 [LV.int IntKind.i64 rm, LV.omap IntKind.i64 (mapK m) (mapV m), LV.own 90 2 (pnds p)] := by simp
  have f7 := D (n + 179)
  have f8 : LV.bool (if true = true then decide (at_ = at_) else false) = LV.bool true := by simp
  have f9 := R (n + 199)
  have f10 : 1 ≤ 1 := by omega
  have f11 : List.length (wl W) = List.length W ∧ (List.length W + 1) * 24 ≤ 140737488355328 := by (simp [-List.reduceReplicate]; omega)
  have f12 : LObj.row 38 1 (wl W ++ List.take 1 (List.drop 0 (List.set [LV.nils] 0 (LV.isl 1 (bys v))))) = LObj.row 38 1 (wl (W ++ [v])) := by simp
  have f13 : LObj.row 38 1 (List.set [LV.nils] 0 (LV.isl 1 (bys v))) = LObj.row 38 1 [LV.isl 1 (bys v)] := by simp
  have f14 : LV.int IntKind.i64 (IntKind.wrap IntKind.i64 (i + 1)) = LV.int IntKind.i64 (i + 1) := by simp (disch := omega) [-List.reduceReplicate]
  have f15 := hr
  exact dloop_ok (fun h => And.intro (congrArg LV.bool f1) <| And.intro (f3) <| And.intro (f2) <| And.intro (f4) <| And.intro (f3) <| And.intro (f2) <| And.intro (f4) <| And.intro (f3) <| And.intro (f2) <| And.intro (f4) <| And.intro (f5) <| And.intro (congrArg some f6) <| And.intro (f7) <| And.intro (f3) <| And.intro (f2) <| And.intro (f4) <| And.intro (f8) <| And.intro (f9) <| And.intro (f10) <| And.intro (f11) <| And.intro (congrArg some f12) <| And.intro (congrArg some f13) <| And.intro (f14) <| And.intro (Eq.refl (tidyOf f15)) <| And.intro (f15) <| h) (.i (.s (.s (.a) (.b true (.a))) (.s (.k (.s (.d [] [.a, .a, .v (vOf f4) (.e (rOf f2)), .a, .a, .a, .a, .a, .a, .a, .v (vOf f4) (.e (rOf f2)), .a, .a, .a, .a, .v (vOf f4) (.e (rOf f2)), .a, .a, .fr .q [.x 0 (vOf f6)] (rOf f7), .a, .a, .a, .a, .a, .v (vOf f4) (.e (rOf f2)), .a, .a, .a] [] [.a, .v (vOf f8) (.a)]) (.c (.s (.r [.a, .a, .f (rOf f9)]) (.r [.a, .a, .a, .x 4 (vOf f13) (.x 5 (vOf f12) (.q))]))))) (.r [.a, .v (vOf f14) (.a)]))) (.h [] (eOf f15) (stOf f15) (rOf f15))) (by kernel_rfl)
theorem kw_endT (n fu : Nat) (rm cut at_ : Int) (l : List Act5) (ks0 was : List Int) (hl : l.length ≤ 60) (m : List (Int × List Int)) (p : List (Int × Option (List Int))) (W : List (List Int)) (hW : 0 < W.length) (hW2 : W.length ≤ 1000) :
    loopAt Tryd.prog C0 (n + 200) 4 1 0 (fu + 1) (kwE cut at_ l ks0 was (.sl 1 3 0 W.length none) l.length) (kwT rm m p W) = some (.exit 2, kwX cut at_ l ks0 was (.sl 1 3 0 W.length none) l.length, (kwT rm m p W)) := by
  have f1 : decide ((↑(List.length l) : Int) < (↑(List.length (ops5 l)) : Int)) = false := by simp
  have f2 : (LX.exit 2, [LV.any, LV.isl 5 (ops5 l), LV.isl 1 (ints ks0), LV.int IntKind.i64 cut, LV.int IntKind.i64 at_, LV.any, LV.any, LV.any, LV.any, LV.any, LV.any, LV.ptr 0 0, LV.any, LV.any, LV.isl 1 (bys was), LV.any, LV.sl 1 3 0 (List.length W) none, LV.int IntKind.i64 (↑(List.length l) : Int), LV.any, LV.any, LV.any, LV.any, LV.any, LV.any, LV.any, LV.any, LV.any, LV.any, LV.any, LV.any, LV.any, LV.any, LV.any, LV.any, LV.any, LV.any, LV.any, LV.any, LV.any, LV.any, LV.any, LV.any, LV.any, LV.any, LV.any, LV.any, LV.any, LV.any, LV.any, LV.any, LV.any, LV.any, LV.any, LV.any, LV.any, LV.any, LV.any, LV.any, LV.any, LV.any, LV.any, LV.any, LV.any, LV.any, LV.any, LV.any, LV.any, LV.any, LV.any, LV.any, LV.any, LV.any, LV.any, LV.any, LV.any, LV.any, LV.any, LV.any, LV.any, LV.any, LV.any, LV.int IntKind.i64 (↑(List.length l) : Int), LV.isl 5 (ops5 l), LV.int IntKind.i64 (↑(List.length (ops5 l)) : Int), LV.bool (decide ((↑(List.length l) : Int) < (↑(List.length (ops5 l)) : Int))), LV.any, LV.any, LV.any, LV.any, LV.any, LV.any, LV.any, LV.any, LV.any, LV.any, LV.any, LV.any, LV.any, LV.any, LV.any, LV.any, LV.any, LV.any, LV.any, LV.any, LV.any, LV.any, LV.any, LV.any, LV.any, LV.any, LV.any, LV.any, LV.any, LV.any, LV.any, LV.any, LV.any, LV.any, LV.any, LV.any, LV.any, LV.any, LV.any, LV.any, LV.any, LV.any, LV.any, LV.any, LV.any, LV.any, LV.any, LV.any, LV.any, LV.any, LV.any, LV.any, LV.any, LV.any, LV.any, LV.any, LV.any, LV.any, LV.any, LV.any, LV.any, LV.any, LV.any, LV.any, LV.any, LV.any, LV.any, LV.any, LV.any, LV.any, LV.any, LV.any, LV.any, LV.any, LV.any, LV.any, LV.any, LV.any, LV.any, LV.any], St.mk 4 [(0, LObj.box 64 [LV.int IntKind.i64 rm, LV.map 1, LV.sl 2 2 0 (List.length p) none]), (1, LObj.map IntKind.i64 (mapE m)), (2, LObj.row 90 2 (pnds p)), (3, LObj.row 38 1 (wl W))]) = (LX.exit 2, kwX cut at_ l ks0 was (LV.sl 1 3 0 (List.length W) none) (↑(List.length l) : Int), kwT rm m p W) := by simp
  exact dloop_ok (fun h => And.intro (congrArg LV.bool f1) <| f2) (.i (.s (.s (.a) (.b false (.a))) .a) (.a)) (by kernel_rfl)
end Go.Mac

namespace Go.Mac
open Go Go.Eng Go.Proofs
set_option linter.unusedVariables false
set_option maxHeartbeats 0
set_option maxRecDepth 100000
abbrev mxS (W : List (List Int)) : St := ⟨1, [(0, .row 38 1 (wl W))]⟩
abbrev mxE (b x : List Int) (N : Nat) (i : Int) : LEnv := [LV.isl 1 (bys b), LV.isl 1 (bys x), LV.any, LV.sl 1 0 0 N none, LV.any, LV.any, LV.any, LV.any, LV.any, LV.int IntKind.i64 i, LV.any, LV.any, LV.any, LV.any, LV.any, LV.any, LV.any, LV.any, LV.any, LV.any, LV.any, LV.any, LV.any, LV.any, LV.any, LV.any, LV.any]
abbrev mxX (b x : List Int) (N : Nat) (i : Int) : LEnv := [LV.isl 1 (bys b), LV.isl 1 (bys x), LV.any, LV.sl 1 0 0 N none, LV.any, LV.any, LV.any, LV.any, LV.any, LV.int IntKind.i64 i, LV.any, LV.any, LV.any, LV.any, LV.int IntKind.i64 i, LV.sl 1 0 0 N none, LV.int IntKind.i64 (N : Int), LV.bool (decide (i < (N : Int))), LV.any, LV.any, LV.any, LV.any, LV.any, LV.any, LV.any, LV.any, LV.any]
abbrev mxH (b x y : List Int) (N : Nat) (i : Int) : LEnv := [LV.isl 1 (bys b), LV.isl 1 (bys x), LV.any, LV.sl 1 0 0 N none, LV.any, LV.any, LV.any, LV.any, LV.bool true, LV.int IntKind.i64 i, LV.any, LV.any, LV.any, LV.any, LV.int IntKind.i64 i, LV.sl 1 0 0 N none, LV.int IntKind.i64 (N : Int), LV.bool (decide (i < (N : Int))), LV.any, LV.any, LV.isl 1 (bys b), LV.isl 1 (bys x), LV.sl 1 0 0 N none, LV.int IntKind.i64 i, LV.pel 1 0 i.toNat 0, LV.isl 1 (bys y), LV.bool true]
theorem mx_first (n : Nat) (b x was : List Int) (W : List (List Int)) (hW : W.length ≤ 1000) (N : Nat) (hN : N ≤ W.length)
    (B : ∀ j, 100 < j → lrun Tryd.prog C0 (lcall Tryd.prog C0 (j + 40)) (j + 40) 43 [.isl 1 (bys b), .isl 1 (bys x), .isl 1 (bys was)] ⟨0, []⟩ = some (.bool true, ⟨0, []⟩)) (hn : 100 < n) :
    lrun Tryd.prog C0 (lcall Tryd.prog C0 (n + 60)) (n + 60) 22 [.isl 1 (bys b), .isl 1 (bys x), .isl 1 (bys was), .sl 1 0 0 N none] (mxS W) = some (.bool true, mxS W) := by
  have f1 := B (n + 19) (by omega)
  exact drun_ok (fun h => And.intro (f1) <| h) (.s (.a) (.s (.s (.r [.a, .a, .a, .f (rOf f1)]) (.a)) .a)) [] .a (by kernel_rfl)
theorem mx_thru (n : Nat) (b x was : List Int) (W : List (List Int)) (hW : W.length ≤ 1000) (N : Nat) (hN : N ≤ W.length)
    (B : ∀ j, 100 < j → lrun Tryd.prog C0 (lcall Tryd.prog C0 (j + 40)) (j + 40) 43 [.isl 1 (bys b), .isl 1 (bys x), .isl 1 (bys was)] ⟨0, []⟩ = some (.bool false, ⟨0, []⟩)) (hn : 100 < n)
    (L : loopAt Tryd.prog C0 (n + 60) 22 0 1 (n + 60) (mxE b x N 0) (mxS W) = some (.exit 0, mxX b x N N, mxS W)) :
    lrun Tryd.prog C0 (lcall Tryd.prog C0 (n + 60)) (n + 60) 22 [.isl 1 (bys b), .isl 1 (bys x), .isl 1 (bys was), .sl 1 0 0 N none] (mxS W) = some (.bool false, mxS W) := by
  have f1 := B (n + 19) (by omega)
  have f2 := L
  exact drun_ok (fun h => And.intro (f1) <| And.intro (Eq.refl (tidyOf f2)) <| And.intro (f2) <| h) (.s (.a) (.s (.s (.r [.a, .a, .a, .f (rOf f1)]) (.a)) (.s (.s (.a) (.k (.l (.h [] (eOf f2) (stOf f2) (rOf f2))))) (.a)))) [] .a (by kernel_rfl)
theorem mx_stop (n : Nat) (b x y was : List Int) (W : List (List Int)) (hW : W.length ≤ 1000) (N : Nat) (hN : N ≤ W.length) (i : Int)
    (B : ∀ j, 100 < j → lrun Tryd.prog C0 (lcall Tryd.prog C0 (j + 40)) (j + 40) 43 [.isl 1 (bys b), .isl 1 (bys x), .isl 1 (bys was)] ⟨0, []⟩ = some (.bool false, ⟨0, []⟩)) (hn : 100 < n)
    (L : loopAt Tryd.prog C0 (n + 60) 22 0 1 (n + 60) (mxE b x N 0) (mxS W) = some (.ret, mxH b x y N i, mxS W)) :
    lrun Tryd.prog C0 (lcall Tryd.prog C0 (n + 60)) (n + 60) 22 [.isl 1 (bys b), .isl 1 (bys x), .isl 1 (bys was), .sl 1 0 0 N none] (mxS W) = some (.bool true, mxS W) := by
  have f1 := B (n + 19) (by omega)
  have f2 := L
  exact drun_ok (fun h => And.intro (f1) <| And.intro (Eq.refl (tidyOf f2)) <| And.intro (f2) <| h) (.s (.a) (.s (.s (.r [.a, .a, .a, .f (rOf f1)]) (.a)) (.s (.s (.a) (.k (.l (.h [] (eOf f2) (stOf f2) (rOf f2))))) .a))) [] .a (by kernel_rfl)
theorem mx_step (n fu : Nat) (b x : List Int) (W : List (List Int)) (hW : W.length ≤ 1000) (N : Nat) (hN : N ≤ W.length) (i : Int) (h0 : 0 ≤ i) (hi : i < (N : Int)) (y : List Int) (hy : (wl W)[i.toNat]? = some (.isl 1 (bys y))) (hn : 100 < n)
    (B : ∀ j, 100 < j → lrun Tryd.prog C0 (lcall Tryd.prog C0 (j + 40)) (j + 40) 43 [.isl 1 (bys b), .isl 1 (bys x), .isl 1 (bys y)] ⟨0, []⟩ = some (.bool false, ⟨0, []⟩)) (r : LX × LEnv × St)
    (hr : loopAt Tryd.prog C0 (n + 60) 22 0 1 fu (mxE b x N (i + 1)) (mxS W) = some r) :
    loopAt Tryd.prog C0 (n + 60) 22 0 1 (fu + 1) (mxE b x N i) (mxS W) = some r := by
  have f1 : decide (i < (↑N : Int)) = true := by (simp [-List.reduceReplicate]; omega)
  have f2 : 0 ≤ i ∧ i < (↑N : Int) := by omega
  have f3 : LV.pel 1 0 (0 + Int.toNat i) 0 = LV.pel 1 0 (Int.toNat i) 0 := by simp
  have f4 : (wl W)[Int.toNat i]? = some (LV.isl 1 (bys y)) := hy
  have f5 := B (n + 19) (by omega)
  have f6 : LV.int IntKind.i64 (IntKind.wrap IntKind.i64 (i + 1)) = LV.int IntKind.i64 (i + 1) := by simp (disch := omega) [-List.reduceReplicate]
  have f7 := hr
  exact dloop_ok (fun h => And.intro (congrArg LV.bool f1) <| And.intro (f2) <| And.intro (f3) <| And.intro (f4) <| And.intro (f5) <| And.intro (f6) <| And.intro (Eq.refl (tidyOf f7)) <| And.intro (f7) <| h) (.i (.s (.s (.a) (.b true (.a))) (.s (.k (.s (.r [.a, .a, .a, .a, .v (vOf f3) (.q), .e (rOf f4), .f (rOf f5)]) (.a))) (.r [.a, .v (vOf f6) (.a)]))) (.h [] (eOf f7) (stOf f7) (rOf f7))) (by kernel_rfl)
theorem mx_hit (n fu : Nat) (b x : List Int) (W : List (List Int)) (hW : W.length ≤ 1000) (N : Nat) (hN : N ≤ W.length) (i : Int) (h0 : 0 ≤ i) (hi : i < (N : Int)) (y : List Int) (hy : (wl W)[i.toNat]? = some (.isl 1 (bys y))) (hn : 100 < n)
    (B : ∀ j, 100 < j → lrun Tryd.prog C0 (lcall Tryd.prog C0 (j + 40)) (j + 40) 43 [.isl 1 (bys b), .isl 1 (bys x), .isl 1 (bys y)] ⟨0, []⟩ = some (.bool true, ⟨0, []⟩)) :
    loopAt Tryd.prog C0 (n + 60) 22 0 1 (fu + 1) (mxE b x N i) (mxS W) = some (.ret, mxH b x y N i, mxS W) := by
  have f1 : decide (i < (↑N : Int)) = true := by (simp [-List.reduceReplicate]; omega)
  have f2 : 0 ≤ i ∧ i < (↑N : Int) := by omega
  have f3 : LV.pel 1 0 (0 + Int.toNat i) 0 = LV.pel 1 0 (Int.toNat i) 0 := by simp
  have f4 : (wl W)[Int.toNat i]? = some (LV.isl 1 (bys y)) := hy
  have f5 := B (n + 19) (by omega)
  exact dloop_ok (fun h => And.intro (congrArg LV.bool f1) <| And.intro (f2) <| And.intro (f3) <| And.intro (f4) <| And.intro (f5) <| h) (.i (.s (.s (.a) (.b true (.a))) (.s (.k (.s (.r [.a, .a, .a, .a, .v (vOf f3) (.q), .e (rOf f4), .f (rOf f5)]) (.a))) .a)) (.a)) (by kernel_rfl)
theorem mx_end (n fu : Nat) (b x : List Int) (W : List (List Int)) (hW : W.length ≤ 1000) (N : Nat) (hN : N ≤ W.length) :
    loopAt Tryd.prog C0 (n + 60) 22 0 1 (fu + 1) (mxE b x N N) (mxS W) = some (.exit 0, mxX b x N N, mxS W) := by
  have f1 : decide ((↑N : Int) < (↑N : Int)) = false := by simp
  exact dloop_ok (fun h => And.intro (congrArg LV.bool f1) <| h) (.i (.s (.s (.a) (.b false (.a))) .a) (.a)) (by kernel_rfl)
theorem wl_at {W : List (List Int)} {i : Nat} {y : List Int} (h : W[i]? = some y) : (wl W)[i]? = some (.isl 1 (bys y)) := by simp [wl, h]
theorem mx_loop (n : Nat) (b x : List Int) (hb : b.length = 64) (hx : x.length = 64) (W : List (List Int)) (hW : W.length ≤ 1000) (h64 : ∀ y ∈ W, y.length = 64) (N : Nat) (hN : N ≤ W.length) (hn : 100 < n) : ∀ (j i fu : Nat), i + j = N → j < fu →
    (((W.take N).drop i).any (bgB b x) = true → ∃ y q, loopAt Tryd.prog C0 (n + 60) 22 0 1 fu (mxE b x N i) (mxS W) = some (.ret, mxH b x y N q, mxS W)) ∧
    (((W.take N).drop i).any (bgB b x) = false → loopAt Tryd.prog C0 (n + 60) 22 0 1 fu (mxE b x N i) (mxS W) = some (.exit 0, mxX b x N N, mxS W))
  | 0, i, fu, hi, hf => by
    obtain ⟨fu, rfl⟩ : ∃ q, fu = q + 1 := ⟨fu - 1, by omega⟩
    obtain rfl : i = N := by omega
    refine ⟨fun h => ?_, fun _ => mx_end n fu b x W hW i hN⟩
    rw [List.drop_of_length_le (by rw [List.length_take]; omega)] at h
    simp at h
  | j + 1, i, fu, hi, hf => by
    obtain ⟨fu, rfl⟩ : ∃ q, fu = q + 1 := ⟨fu - 1, by omega⟩
    have hlt : i < W.length := by omega
    have hy : W[i]? = some W[i] := List.getElem?_eq_getElem hlt
    have hyl := h64 _ (List.getElem_mem hlt)
    have hd : (W.take N).drop i = W[i] :: (W.take N).drop (i + 1) := by
      rw [List.drop_eq_getElem_cons (by simp; omega)]
      simp
    rw [hd, List.any_cons]
    generalize W[i] = y at hy hyl
    have B := fun j (hj : 100 < j) => begun_ok j b x y hb hx hyl hj
    obtain ⟨i1, i2⟩ := mx_loop n b x hb hx W hW h64 N hN hn j (i + 1) fu (by omega) (by omega)
    cases e : bgB b x y with
    | true =>
      simp only [e] at B
      exact ⟨fun _ => ⟨y, i, mx_hit n fu b x W hW N hN (i : Int) (by omega) (by omega) y (wl_at hy) hn B⟩, fun h => by simp at h⟩
    | false =>
      simp only [e] at B
      have st := mx_step n fu b x W hW N hN (i : Int) (by omega) (by omega) y (wl_at hy) hn B
      rw [Bool.false_or]
      exact ⟨fun h => by obtain ⟨z, q, hq⟩ := i1 h; exact ⟨z, q, st _ hq⟩, fun h => st _ (i2 h)⟩
def mxB (b x was : List Int) (W : List (List Int)) (N : Nat) : Bool := bgB b x was || (W.take N).any (bgB b x)
theorem mixed_ok (n : Nat) (b x was : List Int) (hb : b.length = 64) (hx : x.length = 64) (hwas : was.length = 64) (W : List (List Int)) (hW : W.length ≤ 100) (h64 : ∀ y ∈ W, y.length = 64) (N : Nat) (hN : N ≤ W.length) (hn : 100 < n) :
    lrun Tryd.prog C0 (lcall Tryd.prog C0 (n + 60)) (n + 60) 22 [.isl 1 (bys b), .isl 1 (bys x), .isl 1 (bys was), .sl 1 0 0 N none] (mxS W) = some (.bool (mxB b x was W N), mxS W) := by
  have B := fun j (hj : 100 < j) => begun_ok j b x was hb hx hwas hj
  unfold mxB
  cases e : bgB b x was with
  | true =>
    simp only [e] at B
    exact mx_first n b x was W (by omega) N hN B hn
  | false =>
    simp only [e] at B
    rw [Bool.false_or]
    obtain ⟨i1, i2⟩ := mx_loop n b x hb hx W (by omega) h64 N hN hn N 0 (n + 60) (by omega) (by omega)
    rw [List.drop_zero] at i1 i2
    cases h : (W.take N).any (bgB b x) with
    | true =>
      obtain ⟨y, q, hq⟩ := i1 h
      exact mx_stop n b x y was W (by omega) N hN q B hn hq
    | false => exact mx_thru n b x was W (by omega) N hN B hn (i2 h)
end Go.Mac

namespace Go.Mac
open Go Go.Eng Go.Proofs
set_option linter.unusedVariables false
set_option maxHeartbeats 0
set_option maxRecDepth 100000
theorem kt_sameN (n : Nat) (rm cut at_ : Int) (l : List Act5) (ks : List Int) (hl : lightB l = true) (hl2 : l.length ≤ 60) (hk : ks.length ≤ 100) (h0 : 0 ≤ rm) (h1 : rm ≤ 255) (ha : 0 ≤ at_) (ha2 : at_ ≤ 1000) (hn : 400 ≤ n)
    (m m1 m2 : List (Int × List Int)) (p p1 : List (Int × Option (List Int))) (hp1 : p1.length ≤ 10000)
    (F : loopAt Tryd.prog C0 (n + 200) 4 0 0 (n + 200) (keE rm cut at_ l ks 0) ⟨1, [(0, dO rm [] [])]⟩ = some (.exit 0, keX rm cut at_ l ks l.length, ⟨1, [(0, dO rm m p)]⟩))
    (Y : ∀ j, 590 ≤ j + 190 → lrun Tryd.prog C0 (lcall Tryd.prog C0 (j + 190)) (j + 190) 17 [.ptr 0 0] ⟨1, [(0, dO rm m p)]⟩ = some (.tup [], ⟨1, [(0, dO rm m1 [])]⟩))
    (was : List Int) (hwas : was.length = 64)
    (R0 : ∀ j, lrun Tryd.prog C0 (lcall Tryd.prog C0 (j)) (j) 18 [.ptr 0 0, .int .i64 at_] ⟨1, [(0, dO rm m1 [])]⟩ = some (.tup [.isl 1 (bys was), .nili], ⟨1, [(0, dO rm m1 [])]⟩))
    (G : loopAt Tryd.prog C0 (n + 200) 4 1 0 (n + 200) (kwE cut at_ l ks was .nils 0) (kwN rm m1 []) = some (.exit 2, kwX cut at_ l ks was .nils l.length, (kwN rm m1 p1)))
    (K : ∀ j, 590 ≤ j + 60 → lrun Tryd.prog C0 (lcall Tryd.prog C0 (j + 60)) (j + 60) 20 [.ptr 0 0, .isl 1 (ints ks), .int .i64 cut] ⟨1, [(0, dO rm m1 p1)]⟩ = some (.tup [], ⟨1, [(0, dO rm m2 [])]⟩))
    (b : List Int) (hb : b.length = 64)
    (R1 : ∀ j, lrun Tryd.prog C0 (lcall Tryd.prog C0 (j)) (j) 18 [.ptr 0 0, .int .i64 at_] ⟨1, [(0, dO rm m2 [])]⟩ = some (.tup [.isl 1 (bys b), .nili], ⟨1, [(0, dO rm m2 [])]⟩))
    (S : ∀ j, 590 ≤ j + 20 → lrun Tryd.prog C0 (lcall Tryd.prog C0 (j + 20)) (j + 20) 21 [.isl 1 (bys b), .isl 1 (bys was)] ⟨0, []⟩ = some (.bool true, ⟨0, []⟩))
    (hw : lrun Tryd.prog C0 (lcall Tryd.prog C0 (n + 199)) (n + 199) 7 [] ⟨0, []⟩ = some (.bool true, ⟨0, []⟩)) :
    lrun Tryd.prog C0 (lcall Tryd.prog C0 (n + 200)) (n + 200) 4 [.int .u8 rm, .isl 5 (ops5 l), .isl 1 (ints ks), .int .i64 cut, .int .i64 at_] ⟨0, []⟩ = some (.bool true, ⟨0, []⟩) := by
  have f1 := light_ok (n + 179) l (by omega)
  have f2 : (!lightB l) = false := by (simp [-List.reduceReplicate]; omega)
  have f3 : LV.bool (if (!lightB l) = true then true else decide (100 < (↑(List.length (ints ks)) : Int))) = LV.bool false := by (simp [-List.reduceReplicate, hl, hl2, hk, h0, h1, ha, ha2, hn, hp1, F, hwas, G, hb, hw]; omega)
  have f4 : LV.bool (if false = true then true else decide (at_ < 0)) = LV.bool false := by (simp [-List.reduceReplicate]; omega)
  have f5 : LV.bool (if false = true then true else decide (1000 < at_)) = LV.bool false := by (simp [-List.reduceReplicate]; omega)
  have f6 : LV.int IntKind.i64 (IntKind.wrap IntKind.i64 rm) = LV.int IntKind.i64 rm := by simp (disch := omega) [-List.reduceReplicate]
  have f7 := new_ok (n + 189) rm h0 (by omega)
  have f8 := F
  have f9 := Y (n + 9) (by omega)
  have f10 := R0 (n + 199)
  have f11 := G
  have f12 := K (n + 139) (by omega)
  have f13 := R1 (n + 199)
  have f14 : LV.bool (if false = true then true else !decide ((↑(List.length (bys b)) : Int) = 64)) = LV.bool false := by (simp [-List.reduceReplicate]; omega)
  have f15 := S (n + 179) (by omega)
  have f16 := hw
  exact drun_ok (fun h => And.intro (f1) <| And.intro (congrArg some f2) <| And.intro (congrArg some f2) <| And.intro (congrArg some f2) <| And.intro (f3) <| And.intro (f4) <| And.intro (f5) <| And.intro (f6) <| And.intro (f7) <| And.intro (Eq.refl (tidyOf f8)) <| And.intro (f8) <| And.intro (f9) <| And.intro (f10) <| And.intro (Eq.refl (tidyOf f11)) <| And.intro (f11) <| And.intro (f12) <| And.intro (f13) <| And.intro (f14) <| And.intro (f15) <| And.intro (f16) <| h) (.s (.a) (.s (.s (.r [.a, .f (rOf f1), .a, .a, .g false (.a), .g false (.a), .g false (.a), .v (vOf f3) (.a), .a, .a, .a, .v (vOf f4) (.a), .a, .a, .a, .v (vOf f5) (.a)]) (.a)) (.s (.r [.a, .v (vOf f6) (.a), .f (rOf f7)]) (.s (.a) (.s (.s (.a) (.k (.l (.h [] (eOf f8) (stOf f8) (rOf f8))))) (.s (.r [.a, .f (rOf f9)]) (.s (.r [.a, .a, .f (rOf f10)]) (.s (.a) (.s (.s (.a) (.k (.l (.h [] (eOf f11) (stOf f11) (rOf f11))))) (.s (.r [.a, .a, .a, .f (rOf f12)]) (.s (.r [.a, .a, .f (rOf f13)]) (.s (.s (.r [.a, .a, .a, .a, .a, .a, .v (vOf f14) (.a)]) (.a)) (.s (.s (.r [.a, .a, .f (rOf f15)]) (.c (.s (.r [.f (rOf f16)]) (.a)))) .a))))))))))))) [] .a (by kernel_rfl)
theorem kt_sameO (n : Nat) (rm cut at_ : Int) (l : List Act5) (ks : List Int) (hl : lightB l = true) (hl2 : l.length ≤ 60) (hk : ks.length ≤ 100) (h0 : 0 ≤ rm) (h1 : rm ≤ 255) (ha : 0 ≤ at_) (ha2 : at_ ≤ 1000) (hn : 400 ≤ n)
    (m m1 m2 : List (Int × List Int)) (p p1 : List (Int × Option (List Int))) (hp1 : p1.length ≤ 10000)
    (F : loopAt Tryd.prog C0 (n + 200) 4 0 0 (n + 200) (keE rm cut at_ l ks 0) ⟨1, [(0, dO rm [] [])]⟩ = some (.exit 0, keX rm cut at_ l ks l.length, ⟨1, [(0, dO rm m p)]⟩))
    (Y : ∀ j, 590 ≤ j + 190 → lrun Tryd.prog C0 (lcall Tryd.prog C0 (j + 190)) (j + 190) 17 [.ptr 0 0] ⟨1, [(0, dO rm m p)]⟩ = some (.tup [], ⟨1, [(0, dO rm m1 [])]⟩))
    (was : List Int) (hwas : was.length = 64)
    (R0 : ∀ j, lrun Tryd.prog C0 (lcall Tryd.prog C0 (j)) (j) 18 [.ptr 0 0, .int .i64 at_] ⟨1, [(0, dO rm m1 [])]⟩ = some (.tup [.isl 1 (bys was), .nili], ⟨1, [(0, dO rm m1 [])]⟩))
    (G : loopAt Tryd.prog C0 (n + 200) 4 1 0 (n + 200) (kwE cut at_ l ks was .nils 0) (kwN rm m1 []) = some (.exit 2, kwX cut at_ l ks was .nils l.length, (kwO rm m1 p1)))
    (K : ∀ j, 590 ≤ j + 60 → lrun Tryd.prog C0 (lcall Tryd.prog C0 (j + 60)) (j + 60) 20 [.ptr 0 0, .isl 1 (ints ks), .int .i64 cut] ⟨1, [(0, dO rm m1 p1)]⟩ = some (.tup [], ⟨1, [(0, dO rm m2 [])]⟩))
    (b : List Int) (hb : b.length = 64)
    (R1 : ∀ j, lrun Tryd.prog C0 (lcall Tryd.prog C0 (j)) (j) 18 [.ptr 0 0, .int .i64 at_] ⟨1, [(0, dO rm m2 [])]⟩ = some (.tup [.isl 1 (bys b), .nili], ⟨1, [(0, dO rm m2 [])]⟩))
    (S : ∀ j, 590 ≤ j + 20 → lrun Tryd.prog C0 (lcall Tryd.prog C0 (j + 20)) (j + 20) 21 [.isl 1 (bys b), .isl 1 (bys was)] ⟨0, []⟩ = some (.bool true, ⟨0, []⟩))
    (hw : lrun Tryd.prog C0 (lcall Tryd.prog C0 (n + 199)) (n + 199) 7 [] ⟨0, []⟩ = some (.bool true, ⟨0, []⟩)) :
    lrun Tryd.prog C0 (lcall Tryd.prog C0 (n + 200)) (n + 200) 4 [.int .u8 rm, .isl 5 (ops5 l), .isl 1 (ints ks), .int .i64 cut, .int .i64 at_] ⟨0, []⟩ = some (.bool true, ⟨0, []⟩) := by
  have f1 := light_ok (n + 179) l (by omega)
  have f2 : (!lightB l) = false := by (simp [-List.reduceReplicate]; omega)
  have f3 : LV.bool (if (!lightB l) = true then true else decide (100 < (↑(List.length (ints ks)) : Int))) = LV.bool false := by (simp [-List.reduceReplicate, hl, hl2, hk, h0, h1, ha, ha2, hn, hp1, F, hwas, G, hb, hw]; omega)
  have f4 : LV.bool (if false = true then true else decide (at_ < 0)) = LV.bool false := by (simp [-List.reduceReplicate]; omega)
  have f5 : LV.bool (if false = true then true else decide (1000 < at_)) = LV.bool false := by (simp [-List.reduceReplicate]; omega)
  have f6 : LV.int IntKind.i64 (IntKind.wrap IntKind.i64 rm) = LV.int IntKind.i64 rm := by simp (disch := omega) [-List.reduceReplicate]
  have f7 := new_ok (n + 189) rm h0 (by omega)
  have f8 := F
  have f9 := Y (n + 9) (by omega)
  have f10 := R0 (n + 199)
  have f11 := G
  have f12 : List.length (pnds p1) = List.length p1 := by simp
  have f13 : LObj.box 64 [LV.int IntKind.i64 rm, LV.omap IntKind.i64 (List.map (fun x => Prod.fst x) (mapE m1)) (List.map (fun x => Prod.snd x) (mapE m1)), LV.own 90 2 (pnds p1)] = LObj.box 64 [LV.int IntKind.i64 rm, LV.omap IntKind.i64 (mapK m1) (mapV m1), LV.own 90 2 (pnds p1)] := by simp
  have f14 := K (n + 139) (by omega)
  have f15 := R1 (n + 199)
  have f16 : LV.bool (if false = true then true else !decide ((↑(List.length (bys b)) : Int) = 64)) = LV.bool false := by (simp [-List.reduceReplicate]; omega)
  have f17 := S (n + 179) (by omega)
  have f18 := hw
  exact drun_ok (fun h => And.intro (f1) <| And.intro (congrArg some f2) <| And.intro (congrArg some f2) <| And.intro (congrArg some f2) <| And.intro (f3) <| And.intro (f4) <| And.intro (f5) <| And.intro (f6) <| And.intro (f7) <| And.intro (Eq.refl (tidyOf f8)) <| And.intro (f8) <| And.intro (f9) <| And.intro (f10) <| And.intro (Eq.refl (tidyOf f11)) <| And.intro (f11) <| And.intro (f12) <| And.intro (congrArg some f13) <| And.intro (f14) <| And.intro (f15) <| And.intro (f16) <| And.intro (f17) <| And.intro (f18) <| h) (.s (.a) (.s (.s (.r [.a, .f (rOf f1), .a, .a, .g false (.a), .g false (.a), .g false (.a), .v (vOf f3) (.a), .a, .a, .a, .v (vOf f4) (.a), .a, .a, .a, .v (vOf f5) (.a)]) (.a)) (.s (.r [.a, .v (vOf f6) (.a), .f (rOf f7)]) (.s (.a) (.s (.s (.a) (.k (.l (.h [] (eOf f8) (stOf f8) (rOf f8))))) (.s (.r [.a, .f (rOf f9)]) (.s (.r [.a, .a, .f (rOf f10)]) (.s (.a) (.s (.s (.a) (.k (.l (.h [] (eOf f11) (stOf f11) (rOf f11))))) (.s (.r [.a, .a, .a, .fr .q [.x 0 (vOf f13)] (rOf f14)]) (.s (.r [.a, .a, .f (rOf f15)]) (.s (.s (.r [.a, .a, .a, .a, .a, .a, .v (vOf f16) (.a)]) (.a)) (.s (.s (.r [.a, .a, .f (rOf f17)]) (.c (.s (.r [.f (rOf f18)]) (.a)))) .a))))))))))))) [] .a (by kernel_rfl)
theorem kt_sameS (n : Nat) (rm cut at_ : Int) (l : List Act5) (ks : List Int) (hl : lightB l = true) (hl2 : l.length ≤ 60) (hk : ks.length ≤ 100) (h0 : 0 ≤ rm) (h1 : rm ≤ 255) (ha : 0 ≤ at_) (ha2 : at_ ≤ 1000) (hn : 400 ≤ n)
    (m m1 m2 : List (Int × List Int)) (p p1 : List (Int × Option (List Int))) (hp1 : p1.length ≤ 10000) (W : List (List Int)) (hW : 0 < W.length) (hW2 : W.length ≤ 1000)
    (F : loopAt Tryd.prog C0 (n + 200) 4 0 0 (n + 200) (keE rm cut at_ l ks 0) ⟨1, [(0, dO rm [] [])]⟩ = some (.exit 0, keX rm cut at_ l ks l.length, ⟨1, [(0, dO rm m p)]⟩))
    (Y : ∀ j, 590 ≤ j + 190 → lrun Tryd.prog C0 (lcall Tryd.prog C0 (j + 190)) (j + 190) 17 [.ptr 0 0] ⟨1, [(0, dO rm m p)]⟩ = some (.tup [], ⟨1, [(0, dO rm m1 [])]⟩))
    (was : List Int) (hwas : was.length = 64)
    (R0 : ∀ j, lrun Tryd.prog C0 (lcall Tryd.prog C0 (j)) (j) 18 [.ptr 0 0, .int .i64 at_] ⟨1, [(0, dO rm m1 [])]⟩ = some (.tup [.isl 1 (bys was), .nili], ⟨1, [(0, dO rm m1 [])]⟩))
    (G : loopAt Tryd.prog C0 (n + 200) 4 1 0 (n + 200) (kwE cut at_ l ks was .nils 0) (kwN rm m1 []) = some (.exit 2, kwX cut at_ l ks was (.sl 1 1 0 W.length none) l.length, (kwS rm m1 p1 W)))
    (K : ∀ j, 590 ≤ j + 60 → lrun Tryd.prog C0 (lcall Tryd.prog C0 (j + 60)) (j + 60) 20 [.ptr 0 0, .isl 1 (ints ks), .int .i64 cut] ⟨1, [(0, dO rm m1 p1)]⟩ = some (.tup [], ⟨1, [(0, dO rm m2 [])]⟩))
    (b : List Int) (hb : b.length = 64)
    (R1 : ∀ j, lrun Tryd.prog C0 (lcall Tryd.prog C0 (j)) (j) 18 [.ptr 0 0, .int .i64 at_] ⟨1, [(0, dO rm m2 [])]⟩ = some (.tup [.isl 1 (bys b), .nili], ⟨1, [(0, dO rm m2 [])]⟩))
    (S : ∀ j, 590 ≤ j + 20 → lrun Tryd.prog C0 (lcall Tryd.prog C0 (j + 20)) (j + 20) 21 [.isl 1 (bys b), .isl 1 (bys was)] ⟨0, []⟩ = some (.bool true, ⟨0, []⟩))
    (hw : lrun Tryd.prog C0 (lcall Tryd.prog C0 (n + 199)) (n + 199) 7 [] ⟨0, []⟩ = some (.bool true, ⟨0, []⟩)) :
    lrun Tryd.prog C0 (lcall Tryd.prog C0 (n + 200)) (n + 200) 4 [.int .u8 rm, .isl 5 (ops5 l), .isl 1 (ints ks), .int .i64 cut, .int .i64 at_] ⟨0, []⟩ = some (.bool true, ⟨0, []⟩) := by
  have f1 := light_ok (n + 179) l (by omega)
  have f2 : (!lightB l) = false := by (simp [-List.reduceReplicate]; omega)
  have f3 : LV.bool (if (!lightB l) = true then true else decide (100 < (↑(List.length (ints ks)) : Int))) = LV.bool false := by (simp [-List.reduceReplicate, hl, hl2, hk, h0, h1, ha, ha2, hn, hp1, hW, hW2, F, hwas, G, hb, hw]; omega)
  have f4 : LV.bool (if false = true then true else decide (at_ < 0)) = LV.bool false := by (simp [-List.reduceReplicate]; omega)
  have f5 : LV.bool (if false = true then true else decide (1000 < at_)) = LV.bool false := by (simp [-List.reduceReplicate]; omega)
  have f6 : LV.int IntKind.i64 (IntKind.wrap IntKind.i64 rm) = LV.int IntKind.i64 rm := by simp (disch := omega) [-List.reduceReplicate]
  have f7 := new_ok (n + 189) rm h0 (by omega)
  have f8 := F
  have f9 := Y (n + 9) (by omega)
  have f10 := R0 (n + 199)
  have f11 := G
  have f12 := K (n + 139) (by omega)
  have f13 := R1 (n + 199)
  have f14 : LV.bool (if false = true then true else !decide ((↑(List.length (bys b)) : Int) = 64)) = LV.bool false := by (simp [-List.reduceReplicate]; omega)
  have f15 := S (n + 179) (by omega)
  have f16 := hw
  exact drun_ok (fun h => And.intro (f1) <| And.intro (congrArg some f2) <| And.intro (congrArg some f2) <| And.intro (congrArg some f2) <| And.intro (f3) <| And.intro (f4) <| And.intro (f5) <| And.intro (f6) <| And.intro (f7) <| And.intro (Eq.refl (tidyOf f8)) <| And.intro (f8) <| And.intro (f9) <| And.intro (f10) <| And.intro (Eq.refl (tidyOf f11)) <| And.intro (f11) <| And.intro (f12) <| And.intro (f13) <| And.intro (f14) <| And.intro (f15) <| And.intro (f16) <| h) (.s (.a) (.s (.s (.r [.a, .f (rOf f1), .a, .a, .g false (.a), .g false (.a), .g false (.a), .v (vOf f3) (.a), .a, .a, .a, .v (vOf f4) (.a), .a, .a, .a, .v (vOf f5) (.a)]) (.a)) (.s (.r [.a, .v (vOf f6) (.a), .f (rOf f7)]) (.s (.a) (.s (.s (.a) (.k (.l (.h [] (eOf f8) (stOf f8) (rOf f8))))) (.s (.r [.a, .f (rOf f9)]) (.s (.r [.a, .a, .f (rOf f10)]) (.s (.a) (.s (.s (.a) (.k (.l (.h [] (eOf f11) (stOf f11) (rOf f11))))) (.s (.r [.a, .a, .a, .f (rOf f12)]) (.s (.r [.a, .a, .f (rOf f13)]) (.s (.s (.r [.a, .a, .a, .a, .a, .a, .v (vOf f14) (.a)]) (.a)) (.s (.s (.r [.a, .a, .f (rOf f15)]) (.c (.s (.r [.f (rOf f16)]) (.a)))) .a))))))))))))) [] .a (by kernel_rfl)
theorem kt_sameT (n : Nat) (rm cut at_ : Int) (l : List Act5) (ks : List Int) (hl : lightB l = true) (hl2 : l.length ≤ 60) (hk : ks.length ≤ 100) (h0 : 0 ≤ rm) (h1 : rm ≤ 255) (ha : 0 ≤ at_) (ha2 : at_ ≤ 1000) (hn : 400 ≤ n)
    (m m1 m2 : List (Int × List Int)) (p p1 : List (Int × Option (List Int))) (hp1 : p1.length ≤ 10000) (W : List (List Int)) (hW : 0 < W.length) (hW2 : W.length ≤ 1000)
    (F : loopAt Tryd.prog C0 (n + 200) 4 0 0 (n + 200) (keE rm cut at_ l ks 0) ⟨1, [(0, dO rm [] [])]⟩ = some (.exit 0, keX rm cut at_ l ks l.length, ⟨1, [(0, dO rm m p)]⟩))
    (Y : ∀ j, 590 ≤ j + 190 → lrun Tryd.prog C0 (lcall Tryd.prog C0 (j + 190)) (j + 190) 17 [.ptr 0 0] ⟨1, [(0, dO rm m p)]⟩ = some (.tup [], ⟨1, [(0, dO rm m1 [])]⟩))
    (was : List Int) (hwas : was.length = 64)
    (R0 : ∀ j, lrun Tryd.prog C0 (lcall Tryd.prog C0 (j)) (j) 18 [.ptr 0 0, .int .i64 at_] ⟨1, [(0, dO rm m1 [])]⟩ = some (.tup [.isl 1 (bys was), .nili], ⟨1, [(0, dO rm m1 [])]⟩))
    (G : loopAt Tryd.prog C0 (n + 200) 4 1 0 (n + 200) (kwE cut at_ l ks was .nils 0) (kwN rm m1 []) = some (.exit 2, kwX cut at_ l ks was (.sl 1 3 0 W.length none) l.length, (kwT rm m1 p1 W)))
    (K : ∀ j, 590 ≤ j + 60 → lrun Tryd.prog C0 (lcall Tryd.prog C0 (j + 60)) (j + 60) 20 [.ptr 0 0, .isl 1 (ints ks), .int .i64 cut] ⟨1, [(0, dO rm m1 p1)]⟩ = some (.tup [], ⟨1, [(0, dO rm m2 [])]⟩))
    (b : List Int) (hb : b.length = 64)
    (R1 : ∀ j, lrun Tryd.prog C0 (lcall Tryd.prog C0 (j)) (j) 18 [.ptr 0 0, .int .i64 at_] ⟨1, [(0, dO rm m2 [])]⟩ = some (.tup [.isl 1 (bys b), .nili], ⟨1, [(0, dO rm m2 [])]⟩))
    (S : ∀ j, 590 ≤ j + 20 → lrun Tryd.prog C0 (lcall Tryd.prog C0 (j + 20)) (j + 20) 21 [.isl 1 (bys b), .isl 1 (bys was)] ⟨0, []⟩ = some (.bool true, ⟨0, []⟩))
    (hw : lrun Tryd.prog C0 (lcall Tryd.prog C0 (n + 199)) (n + 199) 7 [] ⟨0, []⟩ = some (.bool true, ⟨0, []⟩)) :
    lrun Tryd.prog C0 (lcall Tryd.prog C0 (n + 200)) (n + 200) 4 [.int .u8 rm, .isl 5 (ops5 l), .isl 1 (ints ks), .int .i64 cut, .int .i64 at_] ⟨0, []⟩ = some (.bool true, ⟨0, []⟩) := by
  have f1 := light_ok (n + 179) l (by omega)
  have f2 : (!lightB l) = false := by (simp [-List.reduceReplicate]; omega)
  have f3 : LV.bool (if (!lightB l) = true then true else decide (100 < (↑(List.length (ints ks)) : Int))) = LV.bool false := by (simp [-List.reduceReplicate, hl, hl2, hk, h0, h1, ha, ha2, hn, hp1, hW, hW2, F, hwas, G, hb, hw]; omega)
  have f4 : LV.bool (if false = true then true else decide (at_ < 0)) = LV.bool false := by (simp [-List.reduceReplicate]; omega)
  have f5 : LV.bool (if false = true then true else decide (1000 < at_)) = LV.bool false := by (simp [-List.reduceReplicate]; omega)
  have f6 : LV.int IntKind.i64 (IntKind.wrap IntKind.i64 rm) = LV.int IntKind.i64 rm := by simp (disch := omega) [-List.reduceReplicate]
  have f7 := new_ok (n + 189) rm h0 (by omega)
  have f8 := F
  have f9 := Y (n + 9) (by omega)
  have f10 := R0 (n + 199)
  have f11 := G
  have f12 : List.length (pnds p1) = List.length p1 := by simp
  have f13 : LObj.box 64 [LV.int IntKind.i64 rm, LV.omap IntKind.i64 (List.map (fun x => Prod.fst x) (mapE m1)) (List.map (fun x => Prod.snd x) (mapE m1)), LV.own 90 2 (pnds p1)] = LObj.box 64 [LV.int IntKind.i64 rm, LV.omap IntKind.i64 (mapK m1) (mapV m1), LV.own 90 2 (pnds p1)] := by simp
  have f14 := K (n + 139) (by omega)
  have f15 := R1 (n + 199)
  have f16 : LV.bool (if false = true then true else !decide ((↑(List.length (bys b)) : Int) = 64)) = LV.bool false := by (simp [-List.reduceReplicate]; omega)
  have f17 := S (n + 179) (by omega)
  have f18 := hw
  exact drun_ok (fun h => And.intro (f1) <| And.intro (congrArg some f2) <| And.intro (congrArg some f2) <| And.intro (congrArg some f2) <| And.intro (f3) <| And.intro (f4) <| And.intro (f5) <| And.intro (f6) <| And.intro (f7) <| And.intro (Eq.refl (tidyOf f8)) <| And.intro (f8) <| And.intro (f9) <| And.intro (f10) <| And.intro (Eq.refl (tidyOf f11)) <| And.intro (f11) <| And.intro (f12) <| And.intro (congrArg some f13) <| And.intro (f14) <| And.intro (f15) <| And.intro (f16) <| And.intro (f17) <| And.intro (f18) <| h) (.s (.a) (.s (.s (.r [.a, .f (rOf f1), .a, .a, .g false (.a), .g false (.a), .g false (.a), .v (vOf f3) (.a), .a, .a, .a, .v (vOf f4) (.a), .a, .a, .a, .v (vOf f5) (.a)]) (.a)) (.s (.r [.a, .v (vOf f6) (.a), .f (rOf f7)]) (.s (.a) (.s (.s (.a) (.k (.l (.h [] (eOf f8) (stOf f8) (rOf f8))))) (.s (.r [.a, .f (rOf f9)]) (.s (.r [.a, .a, .f (rOf f10)]) (.s (.a) (.s (.s (.a) (.k (.l (.h [] (eOf f11) (stOf f11) (rOf f11))))) (.s (.r [.a, .a, .a, .fr .q [.x 0 (vOf f13)] (rOf f14)]) (.s (.r [.a, .a, .f (rOf f15)]) (.s (.s (.r [.a, .a, .a, .a, .a, .a, .v (vOf f16) (.a)]) (.a)) (.s (.s (.r [.a, .a, .f (rOf f17)]) (.c (.s (.r [.f (rOf f18)]) (.a)))) .a))))))))))))) [] .a (by kernel_rfl)
end Go.Mac

namespace Go.Mac
open Go Go.Eng Go.Proofs
set_option linter.unusedVariables false
set_option maxHeartbeats 0
set_option maxRecDepth 100000
abbrev kmE (was b : List Int) (W : List (List Int)) (i : Int) : LEnv := [LV.any, LV.any, LV.any, LV.any, LV.any, LV.any, LV.any, LV.any, LV.any, LV.any, LV.any, LV.any, LV.any, LV.any, LV.isl 1 (bys was), LV.any, LV.sl 1 0 0 W.length none, LV.any, LV.any, LV.any, LV.isl 1 (bys b), LV.any, LV.int IntKind.i64 i, LV.any, LV.any, LV.any, LV.any, LV.any, LV.any, LV.any, LV.any, LV.any, LV.any, LV.any, LV.any, LV.any, LV.any, LV.any, LV.any, LV.any, LV.any, LV.any, LV.any, LV.any, LV.any, LV.any, LV.any, LV.any, LV.any, LV.any, LV.any, LV.any, LV.any, LV.any, LV.any, LV.any, LV.any, LV.any, LV.any, LV.any, LV.any, LV.any, LV.any, LV.any, LV.any, LV.any, LV.any, LV.any, LV.any, LV.any, LV.any, LV.any, LV.any, LV.any, LV.any, LV.any, LV.any, LV.any, LV.any, LV.any, LV.any, LV.any, LV.any, LV.any, LV.any, LV.any, LV.any, LV.any, LV.any, LV.any, LV.any, LV.any, LV.any, LV.any, LV.any, LV.any, LV.any, LV.any, LV.any, LV.any, LV.any, LV.any, LV.any, LV.any, LV.any, LV.any, LV.any, LV.any, LV.any, LV.any, LV.any, LV.any, LV.any, LV.any, LV.any, LV.any, LV.any, LV.any, LV.any, LV.any, LV.any, LV.any, LV.any, LV.any, LV.any, LV.any, LV.any, LV.any, LV.any, LV.any, LV.any, LV.any, LV.any, LV.any, LV.any, LV.any, LV.any, LV.any, LV.any, LV.any, LV.any, LV.any, LV.any, LV.any, LV.any, LV.any, LV.any, LV.any, LV.any, LV.any, LV.any, LV.any, LV.any, LV.any, LV.any, LV.any, LV.any, LV.any, LV.any, LV.any, LV.any, LV.any, LV.any, LV.any, LV.any]
abbrev kmH (was b x : List Int) (W : List (List Int)) (k : Nat) : LEnv := [LV.any, LV.any, LV.any, LV.any, LV.any, LV.any, LV.any, LV.any, LV.any, LV.any, LV.bool true, LV.any, LV.any, LV.any, LV.isl 1 (bys was), LV.any, LV.sl 1 0 0 W.length none, LV.any, LV.any, LV.any, LV.isl 1 (bys b), LV.any, LV.int IntKind.i64 (k : Int), LV.any, LV.any, LV.any, LV.any, LV.any, LV.any, LV.any, LV.any, LV.any, LV.any, LV.any, LV.any, LV.any, LV.any, LV.any, LV.any, LV.any, LV.any, LV.any, LV.any, LV.any, LV.any, LV.any, LV.any, LV.any, LV.any, LV.any, LV.any, LV.any, LV.any, LV.any, LV.any, LV.any, LV.any, LV.any, LV.any, LV.any, LV.any, LV.any, LV.any, LV.any, LV.any, LV.any, LV.any, LV.any, LV.any, LV.any, LV.any, LV.any, LV.any, LV.any, LV.any, LV.any, LV.any, LV.any, LV.any, LV.any, LV.any, LV.any, LV.any, LV.any, LV.any, LV.any, LV.any, LV.any, LV.any, LV.any, LV.any, LV.any, LV.any, LV.any, LV.any, LV.any, LV.any, LV.any, LV.any, LV.any, LV.any, LV.any, LV.any, LV.any, LV.any, LV.any, LV.any, LV.any, LV.any, LV.any, LV.any, LV.any, LV.any, LV.any, LV.any, LV.any, LV.any, LV.any, LV.any, LV.any, LV.any, LV.any, LV.any, LV.any, LV.any, LV.any, LV.any, LV.any, LV.any, LV.any, LV.any, LV.any, LV.any, LV.any, LV.any, LV.any, LV.any, LV.any, LV.any, LV.any, LV.any, LV.any, LV.any, LV.any, LV.any, LV.any, LV.any, LV.any, LV.int IntKind.i64 (k : Int), LV.sl 1 0 0 W.length none, LV.int IntKind.i64 (W.length : Int), LV.bool (decide ((k : Int) < (W.length : Int))), LV.any, LV.any, LV.isl 1 (bys b), LV.sl 1 0 0 W.length none, LV.int IntKind.i64 (k : Int), LV.pel 1 0 k 0, LV.isl 1 (bys x), LV.isl 1 (bys was), LV.sl 1 0 0 W.length none, LV.int IntKind.i64 (k : Int), LV.sl 1 0 0 k none, LV.bool true, LV.bool true]
theorem km_step (n fu : Nat) (was b x : List Int) (W : List (List Int)) (hW : W.length ≤ 100) (k : Nat) (hk : k < W.length) (hx : (wl W)[k]? = some (.isl 1 (bys x)))
    (M : ∀ j, 400 < j → lrun Tryd.prog C0 (lcall Tryd.prog C0 (j + 60)) (j + 60) 22 [.isl 1 (bys b), .isl 1 (bys x), .isl 1 (bys was), .sl 1 0 0 k none] (mxS W) = some (.bool false, mxS W)) (hn : 400 ≤ n)
    (r : LX × LEnv × St) (hr : loopAt Tryd.prog C0 (n + 200) 4 2 0 fu (kmE was b W ((k : Int) + 1)) (mxS W) = some r) :
    loopAt Tryd.prog C0 (n + 200) 4 2 0 (fu + 1) (kmE was b W k) (mxS W) = some r := by
  have f1 : decide ((↑k : Int) < (↑(List.length W) : Int)) = true := by (simp [-List.reduceReplicate]; omega)
  have f2 : 0 ≤ (↑k : Int) ∧ (↑k : Int) < (↑(List.length W) : Int) := by omega
  have f3 : LV.pel 1 0 (0 + Int.toNat (↑k : Int)) 0 = LV.pel 1 0 k 0 := by simp
  have f4 : (wl W)[k]? = some (LV.isl 1 (bys x)) := hx
  have f5 : 0 + List.length W ≤ List.length (wl W) := by simp
  have f6 : true = true := by with_reducible rfl
  have f7 : (0 : Int) ≤ (0 : Int) ∧ (0 : Int) ≤ Option.getD (some (↑k : Int)) (↑(List.length W) : Int) ∧ Option.getD (some (↑k : Int)) (↑(List.length W) : Int) ≤ (↑(List.length W) : Int) := by (simp [-List.reduceReplicate]; omega)
  have f8 : LV.sl 1 0 0 (Int.toNat (Option.getD (some (↑k : Int)) (↑(List.length W) : Int))) none = LV.sl 1 0 0 k none := by simp
  have f9 := M (n + 139) (by omega)
  have f10 : LV.int IntKind.i64 (IntKind.wrap IntKind.i64 ((↑k : Int) + 1)) = LV.int IntKind.i64 ((↑k : Int) + 1) := by simp (disch := omega) [-List.reduceReplicate]
  have f11 := hr
  exact dloop_ok (fun h => And.intro (congrArg LV.bool f1) <| And.intro (f2) <| And.intro (f3) <| And.intro (f4) <| And.intro (f5) <| And.intro (f6) <| And.intro (f7) <| And.intro (f8) <| And.intro (f9) <| And.intro (f10) <| And.intro (Eq.refl (tidyOf f11)) <| And.intro (f11) <| h) (.i (.s (.s (.a) (.b true (.a))) (.s (.k (.s (.d [] [.a, .a, .a, .v (vOf f3) (.q), .e (rOf f4), .a, .a, .a, .v (vOf f8) (.q)] [] [.f (rOf f9)]) (.a))) (.r [.a, .v (vOf f10) (.a)]))) (.h [] (eOf f11) (stOf f11) (rOf f11))) (by kernel_rfl)
theorem km_hit (n fu : Nat) (was b x : List Int) (W : List (List Int)) (hW : W.length ≤ 100) (k : Nat) (hk : k < W.length) (hx : (wl W)[k]? = some (.isl 1 (bys x)))
    (M : ∀ j, 400 < j → lrun Tryd.prog C0 (lcall Tryd.prog C0 (j + 60)) (j + 60) 22 [.isl 1 (bys b), .isl 1 (bys x), .isl 1 (bys was), .sl 1 0 0 k none] (mxS W) = some (.bool true, mxS W)) (hn : 400 ≤ n)
    (hw : lrun Tryd.prog C0 (lcall Tryd.prog C0 (n + 199)) (n + 199) 7 [] ⟨0, []⟩ = some (.bool true, ⟨0, []⟩)) :
    loopAt Tryd.prog C0 (n + 200) 4 2 0 (fu + 1) (kmE was b W k) (mxS W) = some (.ret, kmH was b x W k, mxS W) := by
  have f1 : decide ((↑k : Int) < (↑(List.length W) : Int)) = true := by (simp [-List.reduceReplicate]; omega)
  have f2 : 0 ≤ (↑k : Int) ∧ (↑k : Int) < (↑(List.length W) : Int) := by omega
  have f3 : LV.pel 1 0 (0 + Int.toNat (↑k : Int)) 0 = LV.pel 1 0 k 0 := by simp
  have f4 : (wl W)[k]? = some (LV.isl 1 (bys x)) := hx
  have f5 : 0 + List.length W ≤ List.length (wl W) := by simp
  have f6 : true = true := by with_reducible rfl
  have f7 : (0 : Int) ≤ (0 : Int) ∧ (0 : Int) ≤ Option.getD (some (↑k : Int)) (↑(List.length W) : Int) ∧ Option.getD (some (↑k : Int)) (↑(List.length W) : Int) ≤ (↑(List.length W) : Int) := by (simp [-List.reduceReplicate]; omega)
  have f8 : LV.sl 1 0 0 (Int.toNat (Option.getD (some (↑k : Int)) (↑(List.length W) : Int))) none = LV.sl 1 0 0 k none := by simp
  have f9 := M (n + 139) (by omega)
  have f10 := hw
  exact dloop_ok (fun h => And.intro (congrArg LV.bool f1) <| And.intro (f2) <| And.intro (f3) <| And.intro (f4) <| And.intro (f5) <| And.intro (f6) <| And.intro (f7) <| And.intro (f8) <| And.intro (f9) <| And.intro (f10) <| h) (.i (.s (.s (.a) (.b true (.a))) (.s (.k (.s (.d [] [.a, .a, .a, .v (vOf f3) (.q), .e (rOf f4), .a, .a, .a, .v (vOf f8) (.q)] [] [.f (rOf f9)]) (.c (.s (.r [.f (rOf f10)]) (.a))))) .a)) (.a)) (by kernel_rfl)
theorem km_loop (n : Nat) (was b : List Int) (hb : b.length = 64) (hwas : was.length = 64) (W : List (List Int)) (hW : W.length ≤ 100) (h64 : ∀ y ∈ W, y.length = 64) (hn : 400 ≤ n)
    (hw : lrun Tryd.prog C0 (lcall Tryd.prog C0 (n + 199)) (n + 199) 7 [] ⟨0, []⟩ = some (.bool true, ⟨0, []⟩)) (N : Nat) (hN : N < W.length) (z : List Int) (hz : W[N]? = some z) (hm : mxB b z was W N = true) : ∀ (j k fu : Nat), k + j = N → j < fu →
    ∃ x q, loopAt Tryd.prog C0 (n + 200) 4 2 0 fu (kmE was b W k) (mxS W) = some (.ret, kmH was b x W q, mxS W)
  | 0, k, fu, hk, hf => by
    obtain ⟨fu, rfl⟩ : ∃ q, fu = q + 1 := ⟨fu - 1, by omega⟩
    obtain rfl : k = N := by omega
    have hzl := h64 z (List.mem_of_getElem? hz)
    exact ⟨z, k, km_hit n fu was b z W hW k hN (wl_at hz) (fun j hj => by rw [mixed_ok j b z was hb hzl hwas W hW h64 k (by omega) (by omega), hm]) hn hw⟩
  | j + 1, k, fu, hk, hf => by
    obtain ⟨fu, rfl⟩ : ∃ q, fu = q + 1 := ⟨fu - 1, by omega⟩
    have hlt : k < W.length := by omega
    have hx : W[k]? = some W[k] := List.getElem?_eq_getElem hlt
    have hxl := h64 _ (List.getElem_mem hlt)
    generalize W[k] = x at hx hxl
    have M := fun j (hj : 400 < j) => mixed_ok j b x was hb hxl hwas W hW h64 k (by omega) (by omega)
    cases e : mxB b x was W k with
    | true =>
      simp only [e] at M
      exact ⟨x, k, km_hit n fu was b x W hW k hlt (wl_at hx) M hn hw⟩
    | false =>
      simp only [e] at M
      obtain ⟨y, q, hq⟩ := km_loop n was b hb hwas W hW h64 hn hw N hN z hz hm j (k + 1) fu (by omega) (by omega)
      exact ⟨y, q, km_step n fu was b x W hW k hlt (wl_at hx) M hn _ hq⟩
end Go.Mac

namespace Go.Mac
open Go Go.Eng Go.Proofs
set_option linter.unusedVariables false
set_option maxHeartbeats 0
set_option maxRecDepth 100000
theorem kt_loopS (n : Nat) (rm cut at_ : Int) (l : List Act5) (ks : List Int) (hl : lightB l = true) (hl2 : l.length ≤ 60) (hk : ks.length ≤ 100) (h0 : 0 ≤ rm) (h1 : rm ≤ 255) (ha : 0 ≤ at_) (ha2 : at_ ≤ 1000) (hn : 400 ≤ n)
    (m m1 m2 : List (Int × List Int)) (p p1 : List (Int × Option (List Int))) (hp1 : p1.length ≤ 10000) (W : List (List Int)) (hW : 0 < W.length) (hW2 : W.length ≤ 1000)
    (F : loopAt Tryd.prog C0 (n + 200) 4 0 0 (n + 200) (keE rm cut at_ l ks 0) ⟨1, [(0, dO rm [] [])]⟩ = some (.exit 0, keX rm cut at_ l ks l.length, ⟨1, [(0, dO rm m p)]⟩))
    (Y : ∀ j, 590 ≤ j + 190 → lrun Tryd.prog C0 (lcall Tryd.prog C0 (j + 190)) (j + 190) 17 [.ptr 0 0] ⟨1, [(0, dO rm m p)]⟩ = some (.tup [], ⟨1, [(0, dO rm m1 [])]⟩))
    (was : List Int) (hwas : was.length = 64)
    (R0 : ∀ j, lrun Tryd.prog C0 (lcall Tryd.prog C0 (j)) (j) 18 [.ptr 0 0, .int .i64 at_] ⟨1, [(0, dO rm m1 [])]⟩ = some (.tup [.isl 1 (bys was), .nili], ⟨1, [(0, dO rm m1 [])]⟩))
    (G : loopAt Tryd.prog C0 (n + 200) 4 1 0 (n + 200) (kwE cut at_ l ks was .nils 0) (kwN rm m1 []) = some (.exit 2, kwX cut at_ l ks was (.sl 1 1 0 W.length none) l.length, (kwS rm m1 p1 W)))
    (K : ∀ j, 590 ≤ j + 60 → lrun Tryd.prog C0 (lcall Tryd.prog C0 (j + 60)) (j + 60) 20 [.ptr 0 0, .isl 1 (ints ks), .int .i64 cut] ⟨1, [(0, dO rm m1 p1)]⟩ = some (.tup [], ⟨1, [(0, dO rm m2 [])]⟩))
    (b : List Int) (hb : b.length = 64)
    (R1 : ∀ j, lrun Tryd.prog C0 (lcall Tryd.prog C0 (j)) (j) 18 [.ptr 0 0, .int .i64 at_] ⟨1, [(0, dO rm m2 [])]⟩ = some (.tup [.isl 1 (bys b), .nili], ⟨1, [(0, dO rm m2 [])]⟩))
    (S : ∀ j, 590 ≤ j + 20 → lrun Tryd.prog C0 (lcall Tryd.prog C0 (j + 20)) (j + 20) 21 [.isl 1 (bys b), .isl 1 (bys was)] ⟨0, []⟩ = some (.bool false, ⟨0, []⟩))
    (x : List Int) (q : Nat) (H : loopAt Tryd.prog C0 (n + 200) 4 2 0 (n + 200) (kmE was b W 0) (mxS W) = some (.ret, kmH was b x W q, mxS W))
    (hw : lrun Tryd.prog C0 (lcall Tryd.prog C0 (n + 199)) (n + 199) 7 [] ⟨0, []⟩ = some (.bool true, ⟨0, []⟩)) :
    lrun Tryd.prog C0 (lcall Tryd.prog C0 (n + 200)) (n + 200) 4 [.int .u8 rm, .isl 5 (ops5 l), .isl 1 (ints ks), .int .i64 cut, .int .i64 at_] ⟨0, []⟩ = some (.bool true, ⟨0, []⟩) := by
  have f1 := light_ok (n + 179) l (by omega)
  have f2 : (!lightB l) = false := by (simp [-List.reduceReplicate]; omega)
  have f3 : LV.bool (if (!lightB l) = true then true else decide (100 < (↑(List.length (ints ks)) : Int))) = LV.bool false := by (simp [-List.reduceReplicate, hl, hl2, hk, h0, h1, ha, ha2, hn, hp1, hW, hW2, F, hwas, G, hb, H, hw]; omega)
  have f4 : LV.bool (if false = true then true else decide (at_ < 0)) = LV.bool false := by (simp [-List.reduceReplicate]; omega)
  have f5 : LV.bool (if false = true then true else decide (1000 < at_)) = LV.bool false := by (simp [-List.reduceReplicate]; omega)
  have f6 : LV.int IntKind.i64 (IntKind.wrap IntKind.i64 rm) = LV.int IntKind.i64 rm := by simp (disch := omega) [-List.reduceReplicate]
  have f7 := new_ok (n + 189) rm h0 (by omega)
  have f8 := F
  have f9 := Y (n + 9) (by omega)
  have f10 := R0 (n + 199)
  have f11 := G
  have f12 := K (n + 139) (by omega)
  have f13 := R1 (n + 199)
  have f14 : LV.bool (if false = true then true else !decide ((↑(List.length (bys b)) : Int) = 64)) = LV.bool false := by (simp [-List.reduceReplicate]; omega)
  have f15 := S (n + 179) (by omega)
  have f16 := H
  exact drun_ok (fun h => And.intro (f1) <| And.intro (congrArg some f2) <| And.intro (congrArg some f2) <| And.intro (congrArg some f2) <| And.intro (f3) <| And.intro (f4) <| And.intro (f5) <| And.intro (f6) <| And.intro (f7) <| And.intro (Eq.refl (tidyOf f8)) <| And.intro (f8) <| And.intro (f9) <| And.intro (f10) <| And.intro (Eq.refl (tidyOf f11)) <| And.intro (f11) <| And.intro (f12) <| And.intro (f13) <| And.intro (f14) <| And.intro (f15) <| And.intro (Eq.refl (tidyOf f16)) <| And.intro (f16) <| h) (.s (.a) (.s (.s (.r [.a, .f (rOf f1), .a, .a, .g false (.a), .g false (.a), .g false (.a), .v (vOf f3) (.a), .a, .a, .a, .v (vOf f4) (.a), .a, .a, .a, .v (vOf f5) (.a)]) (.a)) (.s (.r [.a, .v (vOf f6) (.a), .f (rOf f7)]) (.s (.a) (.s (.s (.a) (.k (.l (.h [] (eOf f8) (stOf f8) (rOf f8))))) (.s (.r [.a, .f (rOf f9)]) (.s (.r [.a, .a, .f (rOf f10)]) (.s (.a) (.s (.s (.a) (.k (.l (.h [] (eOf f11) (stOf f11) (rOf f11))))) (.s (.r [.a, .a, .a, .f (rOf f12)]) (.s (.r [.a, .a, .f (rOf f13)]) (.s (.s (.r [.a, .a, .a, .a, .a, .a, .v (vOf f14) (.a)]) (.a)) (.s (.s (.r [.a, .a, .f (rOf f15)]) (.a)) (.s (.s (.a) (.k (.l (.h [] (eOf f16) (stOf f16) (rOf f16))))) .a)))))))))))))) [] .a (by kernel_rfl)
theorem kt_loopT (n : Nat) (rm cut at_ : Int) (l : List Act5) (ks : List Int) (hl : lightB l = true) (hl2 : l.length ≤ 60) (hk : ks.length ≤ 100) (h0 : 0 ≤ rm) (h1 : rm ≤ 255) (ha : 0 ≤ at_) (ha2 : at_ ≤ 1000) (hn : 400 ≤ n)
    (m m1 m2 : List (Int × List Int)) (p p1 : List (Int × Option (List Int))) (hp1 : p1.length ≤ 10000) (W : List (List Int)) (hW : 0 < W.length) (hW2 : W.length ≤ 1000)
    (F : loopAt Tryd.prog C0 (n + 200) 4 0 0 (n + 200) (keE rm cut at_ l ks 0) ⟨1, [(0, dO rm [] [])]⟩ = some (.exit 0, keX rm cut at_ l ks l.length, ⟨1, [(0, dO rm m p)]⟩))
    (Y : ∀ j, 590 ≤ j + 190 → lrun Tryd.prog C0 (lcall Tryd.prog C0 (j + 190)) (j + 190) 17 [.ptr 0 0] ⟨1, [(0, dO rm m p)]⟩ = some (.tup [], ⟨1, [(0, dO rm m1 [])]⟩))
    (was : List Int) (hwas : was.length = 64)
    (R0 : ∀ j, lrun Tryd.prog C0 (lcall Tryd.prog C0 (j)) (j) 18 [.ptr 0 0, .int .i64 at_] ⟨1, [(0, dO rm m1 [])]⟩ = some (.tup [.isl 1 (bys was), .nili], ⟨1, [(0, dO rm m1 [])]⟩))
    (G : loopAt Tryd.prog C0 (n + 200) 4 1 0 (n + 200) (kwE cut at_ l ks was .nils 0) (kwN rm m1 []) = some (.exit 2, kwX cut at_ l ks was (.sl 1 3 0 W.length none) l.length, (kwT rm m1 p1 W)))
    (K : ∀ j, 590 ≤ j + 60 → lrun Tryd.prog C0 (lcall Tryd.prog C0 (j + 60)) (j + 60) 20 [.ptr 0 0, .isl 1 (ints ks), .int .i64 cut] ⟨1, [(0, dO rm m1 p1)]⟩ = some (.tup [], ⟨1, [(0, dO rm m2 [])]⟩))
    (b : List Int) (hb : b.length = 64)
    (R1 : ∀ j, lrun Tryd.prog C0 (lcall Tryd.prog C0 (j)) (j) 18 [.ptr 0 0, .int .i64 at_] ⟨1, [(0, dO rm m2 [])]⟩ = some (.tup [.isl 1 (bys b), .nili], ⟨1, [(0, dO rm m2 [])]⟩))
    (S : ∀ j, 590 ≤ j + 20 → lrun Tryd.prog C0 (lcall Tryd.prog C0 (j + 20)) (j + 20) 21 [.isl 1 (bys b), .isl 1 (bys was)] ⟨0, []⟩ = some (.bool false, ⟨0, []⟩))
    (x : List Int) (q : Nat) (H : loopAt Tryd.prog C0 (n + 200) 4 2 0 (n + 200) (kmE was b W 0) (mxS W) = some (.ret, kmH was b x W q, mxS W))
    (hw : lrun Tryd.prog C0 (lcall Tryd.prog C0 (n + 199)) (n + 199) 7 [] ⟨0, []⟩ = some (.bool true, ⟨0, []⟩)) :
    lrun Tryd.prog C0 (lcall Tryd.prog C0 (n + 200)) (n + 200) 4 [.int .u8 rm, .isl 5 (ops5 l), .isl 1 (ints ks), .int .i64 cut, .int .i64 at_] ⟨0, []⟩ = some (.bool true, ⟨0, []⟩) := by
  have f1 := light_ok (n + 179) l (by omega)
  have f2 : (!lightB l) = false := by (simp [-List.reduceReplicate]; omega)
  have f3 : LV.bool (if (!lightB l) = true then true else decide (100 < (↑(List.length (ints ks)) : Int))) = LV.bool false := by (simp [-List.reduceReplicate, hl, hl2, hk, h0, h1, ha, ha2, hn, hp1, hW, hW2, F, hwas, G, hb, H, hw]; omega)
  have f4 : LV.bool (if false = true then true else decide (at_ < 0)) = LV.bool false := by (simp [-List.reduceReplicate]; omega)
  have f5 : LV.bool (if false = true then true else decide (1000 < at_)) = LV.bool false := by (simp [-List.reduceReplicate]; omega)
  have f6 : LV.int IntKind.i64 (IntKind.wrap IntKind.i64 rm) = LV.int IntKind.i64 rm := by simp (disch := omega) [-List.reduceReplicate]
  have f7 := new_ok (n + 189) rm h0 (by omega)
  have f8 := F
  have f9 := Y (n + 9) (by omega)
  have f10 := R0 (n + 199)
  have f11 := G
  have f12 : List.length (pnds p1) = List.length p1 := by simp
  have f13 : LObj.box 64 [LV.int IntKind.i64 rm, LV.omap IntKind.i64 (List.map (fun x => Prod.fst x) (mapE m1)) (List.map (fun x => Prod.snd x) (mapE m1)), LV.own 90 2 (pnds p1)] = LObj.box 64 [LV.int IntKind.i64 rm, LV.omap IntKind.i64 (mapK m1) (mapV m1), LV.own 90 2 (pnds p1)] := by simp
  have f14 := K (n + 139) (by omega)
  have f15 := R1 (n + 199)
  have f16 : LV.bool (if false = true then true else !decide ((↑(List.length (bys b)) : Int) = 64)) = LV.bool false := by (simp [-List.reduceReplicate]; omega)
  have f17 := S (n + 179) (by omega)
  have f18 := H
  exact drun_ok (fun h => And.intro (f1) <| And.intro (congrArg some f2) <| And.intro (congrArg some f2) <| And.intro (congrArg some f2) <| And.intro (f3) <| And.intro (f4) <| And.intro (f5) <| And.intro (f6) <| And.intro (f7) <| And.intro (Eq.refl (tidyOf f8)) <| And.intro (f8) <| And.intro (f9) <| And.intro (f10) <| And.intro (Eq.refl (tidyOf f11)) <| And.intro (f11) <| And.intro (f12) <| And.intro (congrArg some f13) <| And.intro (f14) <| And.intro (f15) <| And.intro (f16) <| And.intro (f17) <| And.intro (Eq.refl (tidyOf f18)) <| And.intro (f18) <| h) (.s (.a) (.s (.s (.r [.a, .f (rOf f1), .a, .a, .g false (.a), .g false (.a), .g false (.a), .v (vOf f3) (.a), .a, .a, .a, .v (vOf f4) (.a), .a, .a, .a, .v (vOf f5) (.a)]) (.a)) (.s (.r [.a, .v (vOf f6) (.a), .f (rOf f7)]) (.s (.a) (.s (.s (.a) (.k (.l (.h [] (eOf f8) (stOf f8) (rOf f8))))) (.s (.r [.a, .f (rOf f9)]) (.s (.r [.a, .a, .f (rOf f10)]) (.s (.a) (.s (.s (.a) (.k (.l (.h [] (eOf f11) (stOf f11) (rOf f11))))) (.s (.r [.a, .a, .a, .fr .q [.x 0 (vOf f13)] (rOf f14)]) (.s (.r [.a, .a, .f (rOf f15)]) (.s (.s (.r [.a, .a, .a, .a, .a, .a, .v (vOf f16) (.a)]) (.a)) (.s (.s (.r [.a, .a, .f (rOf f17)]) (.a)) (.s (.s (.a) (.k (.l (.h [] (eOf f18) (stOf f18) (rOf f18))))) .a)))))))))))))) [] .a (by kernel_rfl)
end Go.Mac

namespace Go.Mac
open Go Go.Eng Go.Proofs Go.Mac.Nd
set_option linter.unusedVariables false
set_option maxRecDepth 100000
theorem mget_mset (n a : Int) (x : List Int) : ∀ m : List (Int × List Int), n ∈ mapK m → mget (mset m n x) a = if a = n then some x else mget m a
  | [], h => by simp [mapK] at h
  | (k, v) :: m, h => by
    simp only [mset]
    split
    · rename_i e; subst e
      simp only [mget]
      by_cases ha : a = k
      · subst ha; simp
      · rw [if_neg (fun e => ha e.symm), if_neg ha, if_neg (fun e => ha e.symm)]
    · rename_i e
      have hm : n ∈ mapK m := by
        simp only [mapK, List.map_cons, List.mem_cons] at h
        rcases h with h | h
        · exact absurd h.symm e
        · exact h
      have ih := mget_mset n a x m hm
      simp only [mget]
      by_cases ha : k = a
      · subst ha; rw [if_pos rfl, if_pos rfl, if_neg e]
      · rw [if_neg ha, if_neg ha, ih]
theorem mget_mins (n a : Int) (x : List Int) : ∀ m : List (Int × List Int), n ∉ mapK m → mget (mins m n x) a = if a = n then some x else mget m a
  | [], h => by
    simp only [mins, mget]
    by_cases ha : a = n
    · subst ha; simp
    · rw [if_neg (fun e => ha e.symm), if_neg ha]
  | (k, v) :: m, h => by
    have hk : n ≠ k := fun e => h (by simp [mapK, e])
    have hm : n ∉ mapK m := fun e => h (by simp only [mapK, List.map_cons, List.mem_cons]; exact .inr e)
    simp only [mins]
    split
    · simp only [mget]
      by_cases ha : a = n
      · subst ha; simp
      · rw [if_neg (fun e => ha e.symm), if_neg ha]
    · have ih := mget_mins n a x m hm
      simp only [mget]
      by_cases ha : k = a
      · subst ha; rw [if_pos rfl, if_pos rfl, if_neg (fun e => hk e.symm)]
      · rw [if_neg ha, if_neg ha, ih]
theorem mget_put (m : List (Int × List Int)) (n a : Int) (x : List Int) : mget (mput2 m n x) a = if a = n then some x else mget m a := by
  unfold mput2
  split
  · rename_i h; exact mget_mset n a x m ((mget_some_iff n m).1 h)
  · rename_i h; exact mget_mins n a x m (fun q => h ((mget_some_iff n m).2 q))
theorem blk_of64 {b : List Int} (h : b.length = 64) : blk b = b := by
  rw [← blk_padS, List.take_append_of_le_length (by omega), List.take_of_length_le (by omega)]
theorem cur_put (m : List (Int × List Int)) (n a : Int) (x : List Int) (hx : x.length = 64) : cur (mput2 m n x) a = if a = n then x else cur m a := by
  unfold cur
  rw [mget_put]
  by_cases h : a = n
  · rw [if_pos h, if_pos h]; exact blk_of64 hx
  · rw [if_neg h, if_neg h]
theorem rd_nil (m : List (Int × List Int)) (a : Int) : rd m [] a = cur m a := by
  unfold rd cur
  simp only [lastW]
  cases mget m a with
  | some b => rfl
  | none => rfl
def atW (a : Int) : List (Int × Option (List Int)) → List (List Int)
  | [] => []
  | (k, some b) :: q => if k = a then b :: atW a q else atW a q
  | (k, none) :: q => atW a q
theorem atW_snoc (a k : Int) (b : List Int) : ∀ p, atW a (p ++ [(k, some b)]) = if k = a then atW a p ++ [b] else atW a p
  | [] => by simp [atW]
  | (j, some c) :: q => by
    have ih := atW_snoc a k b q
    simp only [List.cons_append, atW, ih]
    by_cases h : j = a <;> by_cases h2 : k = a <;> simp [h, h2]
  | (j, none) :: q => by
    have ih := atW_snoc a k b q
    simp only [List.cons_append, atW, ih]
def puts (p : List (Int × Option (List Int))) : Prop := ∀ x ∈ p, ∃ b, x.2 = some b ∧ b.length = 64
abbrev Good (was : List Int) (A : List (List Int)) (b : List Int) : Prop := b = was ∨ ∃ (k : Nat) (x : List Int), A[k]? = some x ∧ (Begun b x was ∨ ∃ (j : Nat) (y : List Int), j < k ∧ A[j]? = some y ∧ Begun b x y)
abbrev Plain (was : List Int) (A : List (List Int)) (b : List Int) : Prop := b = was ∨ b ∈ A
theorem begun_self {x y : List Int} (hx : x.length = 64) (hy : y.length = 64) : Begun x x y := ⟨64, Nat.le_refl _, by rw [List.take_of_length_le (by omega), List.drop_of_length_le (by omega), List.append_nil]⟩
theorem crash_good (a : Int) (was : List Int) (hwas : was.length = 64) (ks : List Int) (cut last : Int) : ∀ (q : List (Int × Option (List Int))) (k : Nat) (m : List (Int × List Int)) (A : List (List Int)), puts q → (∀ x ∈ A, x.length = 64) →
    (last < k → Good was (A ++ atW a q) (cur m a)) → (k ≤ last → Plain was A (cur m a)) → last < k + q.length → Good was (A ++ atW a q) (cur (crashM ks cut last q k m) a)
  | [], k, m, A, hq, hA, hg, hp, hl => by
    simp only [crashM]
    exact hg (by simpa using hl)
  | (n, o) :: q, k, m, A, hq, hA, hg, hp, hl => by
    obtain ⟨b, hb, hb64⟩ := hq (n, o) (by simp)
    simp only at hb
    subst hb
    have hq2 : puts q := fun x hx => hq x (by simp [hx])
    have hc64 := cur_length m a
    have hl2 : last < ((k + 1 : Nat) : Int) + q.length := by simp at hl; omega
    simp only [crashM]
    have hAn : A ++ atW a ((n, some b) :: q) = (if n = a then A ++ [b] else A) ++ atW a q := by
      simp only [atW]; split <;> simp
    rw [hAn]
    rw [hAn] at hg
    have hA2 : ∀ x ∈ (if n = a then A ++ [b] else A), x.length = 64 := by
      split
      · intro x hx
        rcases List.mem_append.1 hx with hx | hx
        · exact hA x hx
        · simp at hx; subst hx; exact hb64
      · exact hA
    have plain_mono : Plain was A (cur m a) → Plain was (if n = a then A ++ [b] else A) (cur m a) := by
      intro h
      split
      · exact h.imp id (fun h => by simp [h])
      · exact h
    by_cases h1 : last < k
    · have e : stepM ks cut last k m (n, some b) = m := by unfold stepM; rw [if_pos (.inl h1)]
      rw [e]
      exact crash_good a was hwas ks cut last q (k + 1) m _ hq2 hA2 (fun _ => hg h1) (fun h => by omega) hl2
    have hk : (k : Int) ≤ last := by omega
    have P := hp hk
    by_cases h2 : atI ks k = 0
    · have e : stepM ks cut last k m (n, some b) = m := by unfold stepM; rw [if_pos (.inr h2)]
      rw [e]
      refine crash_good a was hwas ks cut last q (k + 1) m _ hq2 hA2 (fun h => ?_) (fun _ => plain_mono P) hl2
      rcases plain_mono P with h | h
      · exact .inl h
      · obtain ⟨i, hi⟩ := List.mem_iff_getElem?.1 h
        exact .inr ⟨i, _, by rw [List.getElem?_append_left (List.getElem?_eq_some_iff.1 hi).1]; exact hi, .inl (begun_self hc64 hwas)⟩
    have hn : ¬ (last < k ∨ atI ks k = 0) := by rintro (h | h); exact h1 h; exact h2 h
    by_cases h3 : (k : Int) = last ∧ 0 ≤ cut ∧ cut < 64
    · have e : stepM ks cut last k m (n, some b) = mput2 m n (spliceI (cur m n) 0 (b.take cut.toNat)) := by
        unfold stepM; rw [if_neg hn]; simp only; rw [if_pos h3]
      rw [e]
      have ht := torn_length m n b hb64 cut.toNat
      refine crash_good a was hwas ks cut last q (k + 1) _ _ hq2 hA2 (fun _ => ?_) (fun h => by omega) hl2
      rw [cur_put _ _ _ _ ht]
      by_cases hna : a = n
      · rw [if_pos hna]
        subst hna
        simp only [if_true]
        have hB : ∀ y : List Int, y = cur m a → Begun (spliceI (cur m a) 0 (b.take cut.toNat)) b y := by
          rintro y rfl
          refine ⟨cut.toNat, by omega, ?_⟩
          unfold spliceI
          simp only [List.take_zero, List.nil_append, Nat.zero_add, List.length_take]
          congr 2; omega
        refine .inr ⟨A.length, b, by simp, ?_⟩
        rcases P with h | h
        · exact .inl (hB _ h.symm)
        · obtain ⟨i, hi⟩ := List.mem_iff_getElem?.1 h
          have hlt := (List.getElem?_eq_some_iff.1 hi).1
          exact .inr ⟨i, _, hlt, by rw [List.append_assoc, List.getElem?_append_left hlt]; exact hi, hB _ rfl⟩
      · rw [if_neg hna, if_neg (fun e => hna e.symm)]
        rcases P with h | h
        · exact .inl h
        · obtain ⟨i, hi⟩ := List.mem_iff_getElem?.1 h
          exact .inr ⟨i, _, by rw [List.getElem?_append_left (List.getElem?_eq_some_iff.1 hi).1]; exact hi, .inl (begun_self hc64 hwas)⟩
    · have e : stepM ks cut last k m (n, some b) = mput2 m n b := by
        unfold stepM; rw [if_neg hn]; simp only; rw [if_neg h3]
      rw [e]
      have P2 : Plain was (if n = a then A ++ [b] else A) (cur (mput2 m n b) a) := by
        rw [cur_put _ _ _ _ hb64]
        by_cases hna : a = n
        · rw [if_pos hna, if_pos hna.symm]; exact .inr (by simp)
        · rw [if_neg hna, if_neg (fun e => hna e.symm)]; exact P
      refine crash_good a was hwas ks cut last q (k + 1) _ _ hq2 hA2 (fun _ => ?_) (fun _ => P2) hl2
      rcases P2 with h | h
      · exact .inl h
      · obtain ⟨i, hi⟩ := List.mem_iff_getElem?.1 h
        exact .inr ⟨i, _, by rw [List.getElem?_append_left (List.getElem?_eq_some_iff.1 hi).1]; exact hi, .inl (begun_self (cur_length _ _) hwas)⟩
theorem crashD_good (a : Int) (m : List (Int × List Int)) (p : List (Int × Option (List Int))) (hp : puts p) (ks : List Int) (cut : Int) : Good (cur m a) (atW a p) (cur (crashD m p ks cut) a) := by
  have := crash_good a (cur m a) (cur_length m a) ks cut (lastK ks p.length) p 0 m [] hp (by simp) (fun _ => .inl rfl) (fun _ => .inl rfl) (by have := lastK_lt ks p.length; omega)
  simpa [crashD] using this
theorem rd_snoc (m : List (Int × List Int)) (p : List (Int × Option (List Int))) (a : Int) (b : List Int) (hb : b.length = 64) : rd m (p ++ [(a, some b)]) a = b := by
  have : ∀ p : List (Int × Option (List Int)), lastW a (p ++ [(a, some b)]) = some (some b) := by
    intro p
    induction p with
    | nil => simp [lastW]
    | cons x p ih =>
      obtain ⟨k, o⟩ := x
      simp only [List.cons_append, lastW, ih]
  unfold rd
  rw [this]
  exact blk_of64 hb
end Go.Mac

namespace Go.Mac
open Go Go.Eng Go.Proofs Go.Mac.Nd
set_option linter.unusedVariables false
set_option maxRecDepth 100000
theorem keeps_loop (rm cut at_ : Int) (l : List Act5) (ks : List Int) (hl : l.length ≤ 60) (hL : l.all Light = true) (h0 : 0 ≤ rm) (h1 : rm ≤ 255) : ∀ (j i fu : Nat) (m : List (Int × List Int)) (p : List (Int × Option (List Int))), i + j = l.length → j < fu → okM m → okQ p → p.length ≤ i → ((needs m p).length : Int) ≤ rm →
    ∃ m' p', loopAt Tryd.prog C0 (400 + 200) 4 0 0 fu (keE rm cut at_ l ks i) ⟨1, [(0, dO rm m p)]⟩ = some (.exit 0, keX rm cut at_ l ks l.length, ⟨1, [(0, dO rm m' p')]⟩) ∧ okM m' ∧ okQ p' ∧ p'.length ≤ 60
  | 0, i, fu, m, p, hi, hf, hm, hq, hp, hu => by
    obtain ⟨fu, rfl⟩ : ∃ q, fu = q + 1 := ⟨fu - 1, by omega⟩
    obtain rfl : i = l.length := by omega
    exact ⟨m, p, ke_end 400 fu rm cut at_ l ks hl m p, hm, hq, by omega⟩
  | j + 1, i, fu, m, p, hi, hf, hm, hq, hp, hu => by
    obtain ⟨fu, rfl⟩ : ∃ q, fu = q + 1 := ⟨fu - 1, by omega⟩
    have hlt : i < l.length := by omega
    have hx : l[i]? = some l[i] := List.getElem?_eq_getElem hlt
    have hLx : Light l[i] = true := List.all_eq_true.1 hL _ (List.getElem_mem hlt)
    generalize l[i] = x at hx hLx
    by_cases k5 : x.kind = 5
    · obtain ⟨m', p', r1, r2⟩ := keeps_loop rm cut at_ l ks hl hL h0 h1 j (i + 1) fu m p (by omega) (by omega) hm hq (by omega) hu
      exact ⟨m', p', ke_skip 400 fu rm cut at_ l ks hl h0 h1 (i : Int) (by omega) (by omega) x.kind x.at_ x.b x.keep x.cut (ops5_at hx) k5 m p _ r1, r2⟩
    · obtain ⟨m1, p1, L, e, g1, g2, g3, g4, D⟩ := do_any rm h0 h1 m p hm hq (by omega) hu x hLx
      obtain ⟨m', p', r1, r2⟩ := keeps_loop rm cut at_ l ks hl hL h0 h1 j (i + 1) fu m1 p1 (by omega) (by omega) g1 g2 (by omega) g4
      exact ⟨m', p', ke_step 400 fu rm cut at_ l ks hl h0 h1 (i : Int) (by omega) (by omega) x.kind x.at_ x.b x.keep x.cut (ops5_at hx) k5 m m1 p p1 L e D _ r1, r2⟩
theorem write_cases (rm : Int) (m : List (Int × List Int)) (p : List (Int × Option (List Int))) (hp : p.length ≤ 10000) (ho : okQ p) (a : Int) (b : List Int) (hb : b.length ≤ 100) :
    (∃ op ea ec, ∀ k, lrun Tryd.prog C0 (lcall Tryd.prog C0 (k + 20)) (k + 20) 19 [.ptr 0 0, .int .i64 a, .isl 1 (bys b)] ⟨1, [(0, dO rm m p)]⟩ = some (flt op ea ec, ⟨1, [(0, dO rm m p)]⟩)) ∨
    (inR a ∧ ∀ k, lrun Tryd.prog C0 (lcall Tryd.prog C0 (k + 20)) (k + 20) 19 [.ptr 0 0, .int .i64 a, .isl 1 (bys b)] ⟨1, [(0, dO rm m p)]⟩ = some (.nili, ⟨1, [(0, dO rm m (p ++ [(a, some (blk b))]))]⟩)) := by
  by_cases ha : inR a
  · by_cases h64 : b.length ≤ 64
    · rcases write_any rm m p hp ho a ha b h64 with ⟨u, _, _, _, W⟩ | ⟨_, _, W⟩
      · exact .inr ⟨ha, W⟩
      · exact .inl ⟨_, _, _, W⟩
    · exact .inl ⟨_, _, _, fun k => write_long k a b rm m p ha.1 ha.2 (by omega) (by omega)⟩
  · exact .inl ⟨_, _, _, fun k => write_bad k a b rm m p (inR_not ha)⟩
inductive KF (rm : Int) (m : List (Int × List Int)) (p : List (Int × Option (List Int))) : List (List Int) → LV → St → Prop where
  | n : KF rm m p [] .nils (kwN rm m p)
  | o : KF rm m p [] .nils (kwO rm m p)
  | s (W : List (List Int)) (h : 0 < W.length) : KF rm m p W (.sl 1 1 0 W.length none) (kwS rm m p W)
  | t (W : List (List Int)) (h : 0 < W.length) : KF rm m p W (.sl 1 3 0 W.length none) (kwT rm m p W)
theorem puts.snoc {p : List (Int × Option (List Int))} (h : puts p) (a : Int) (b : List Int) (hb : b.length = 64) : puts (p ++ [(a, some b)]) := by
  intro x hx
  rcases List.mem_append.1 hx with hx | hx
  · exact h x hx
  · simp at hx; subst hx; exact ⟨b, rfl, hb⟩
theorem kw_any (n fu : Nat) (rm cut at_ : Int) (l : List Act5) (ks0 was : List Int) (hl : l.length ≤ 60) (ha0 : 0 ≤ at_) (ha1 : at_ ≤ 1000) (i : Nat) (hi : i < l.length) (x : Act5) (hx : l[i]? = some x) (hLx : Light x = true)
    (m : List (Int × List Int)) (p : List (Int × Option (List Int))) (hp : p.length ≤ i) (hq : okQ p) (hpu : puts p) (W : List (List Int)) (hW : W = atW at_ p) (hWl : W.length ≤ i) (wv : LV) (S : St) (hF : KF rm m p W wv S) :
    ∃ p' W' wv' S', KF rm m p' W' wv' S' ∧ p'.length ≤ i + 1 ∧ okQ p' ∧ puts p' ∧ W' = atW at_ p' ∧ W'.length ≤ i + 1 ∧
      ∀ r, loopAt Tryd.prog C0 (n + 200) 4 1 0 fu (kwE cut at_ l ks0 was wv' ((i : Int) + 1)) S' = some r → loopAt Tryd.prog C0 (n + 200) 4 1 0 (fu + 1) (kwE cut at_ l ks0 was wv i) S = some r := by
  have hx5 := ops5_at hx
  simp only [Light, Bool.and_eq_true, decide_eq_true_eq] at hLx
  obtain ⟨hb, _⟩ := hLx
  obtain ⟨kind, a, b, ks, c⟩ := x
  simp only at hx5 hb
  by_cases k0 : kind = 0
  · rcases write_cases rm m p (by omega) hq a b hb with ⟨op, ea, ec, D⟩ | ⟨ha, D⟩
    · cases hF with
      | n => exact ⟨p, _, _, _, .n, by omega, hq, hpu, hW, by omega, fun r hr => kw_failN n fu rm cut at_ l ks0 was hl ha0 ha1 (i : Int) (by omega) (by omega) kind a b ks c hx5 m p [] (by omega) k0 op ea ec D r hr⟩
      | o => exact ⟨p, _, _, _, .n, by omega, hq, hpu, hW, by omega, fun r hr => kw_failO n fu rm cut at_ l ks0 was hl ha0 ha1 (i : Int) (by omega) (by omega) kind a b ks c hx5 m p [] (by omega) k0 op ea ec D r hr⟩
      | s _ h => exact ⟨p, _, _, _, .s _ h, by omega, hq, hpu, hW, by omega, fun r hr => kw_failS n fu rm cut at_ l ks0 was hl ha0 ha1 (i : Int) (by omega) (by omega) kind a b ks c hx5 m p [] (by omega) _ h (by omega) k0 op ea ec D r hr⟩
      | t _ h => exact ⟨p, _, _, _, .s _ h, by omega, hq, hpu, hW, by omega, fun r hr => kw_failT n fu rm cut at_ l ks0 was hl ha0 ha1 (i : Int) (by omega) (by omega) kind a b ks c hx5 m p [] (by omega) _ h (by omega) k0 op ea ec D r hr⟩
    · have hq' := hq.snoc ha (some (blk b)) (fun c hc => by injection hc with hc; subst hc; simp)
      have hpu' := hpu.snoc a (blk b) (by simp)
      by_cases hne : a = at_
      · subst hne
        have hW' : W ++ [blk b] = atW a (p ++ [(a, some (blk b))]) := by rw [atW_snoc, if_pos rfl, hW]
        have R : ∀ j, lrun Tryd.prog C0 (lcall Tryd.prog C0 (j)) (j) 18 [.ptr 0 0, .int .i64 a] ⟨1, [(0, dO rm m (p ++ [(a, some (blk b))]))]⟩ = some (.tup [.isl 1 (bys (blk b)), .nili], ⟨1, [(0, dO rm m (p ++ [(a, some (blk b))]))]⟩) := fun j => by
          have := dread_ok j rm m (p ++ [(a, some (blk b))]) a ha.1 ha.2 (by simp; omega) hq'.ok64.okP
          rwa [rd_snoc m p a (blk b) (by simp)] at this
        cases hF with
        | n => exact ⟨_, _, _, _, .s [blk b] (by simp), by simp; omega, hq', hpu', by simpa using hW', by simp, fun r hr => kw_hitN n fu rm cut a l ks0 was hl ha0 ha1 (i : Int) (by omega) (by omega) kind b ks c hx5 m p _ (by omega) k0 _ (by simp) D R r (by simpa using hr)⟩
        | o => exact ⟨_, _, _, _, .s [blk b] (by simp), by simp; omega, hq', hpu', by simpa using hW', by simp, fun r hr => kw_hitO n fu rm cut a l ks0 was hl ha0 ha1 (i : Int) (by omega) (by omega) kind b ks c hx5 m p _ (by omega) k0 _ (by simp) D R r (by simpa using hr)⟩
        | s _ h => exact ⟨_, _, _, _, .s _ (by simp), by simp; omega, hq', hpu', hW', by simp; omega, fun r hr => kw_hitS n fu rm cut a l ks0 was hl ha0 ha1 (i : Int) (by omega) (by omega) kind b ks c hx5 m p _ (by omega) _ h (by omega) k0 _ (by simp) D R r (by simpa using hr)⟩
        | t _ h => exact ⟨_, _, _, _, .s _ (by simp), by simp; omega, hq', hpu', hW', by simp; omega, fun r hr => kw_hitT n fu rm cut a l ks0 was hl ha0 ha1 (i : Int) (by omega) (by omega) kind b ks c hx5 m p _ (by omega) _ h (by omega) k0 _ (by simp) D R r (by simpa using hr)⟩
      · have hW' : W = atW at_ (p ++ [(a, some (blk b))]) := by rw [atW_snoc, if_neg hne, hW]
        cases hF with
        | n => exact ⟨_, _, _, _, .n, by simp; omega, hq', hpu', hW', by omega, fun r hr => kw_elseN n fu rm cut at_ l ks0 was hl ha0 ha1 (i : Int) (by omega) (by omega) kind a b ks c hx5 m p _ (by omega) k0 hne D r hr⟩
        | o => exact ⟨_, _, _, _, .n, by simp; omega, hq', hpu', hW', by omega, fun r hr => kw_elseO n fu rm cut at_ l ks0 was hl ha0 ha1 (i : Int) (by omega) (by omega) kind a b ks c hx5 m p _ (by omega) k0 hne D r hr⟩
        | s _ h => exact ⟨_, _, _, _, .s _ h, by simp; omega, hq', hpu', hW', by omega, fun r hr => kw_elseS n fu rm cut at_ l ks0 was hl ha0 ha1 (i : Int) (by omega) (by omega) kind a b ks c hx5 m p _ (by omega) _ h (by omega) k0 hne D r hr⟩
        | t _ h => exact ⟨_, _, _, _, .s _ h, by simp; omega, hq', hpu', hW', by omega, fun r hr => kw_elseT n fu rm cut at_ l ks0 was hl ha0 ha1 (i : Int) (by omega) (by omega) kind a b ks c hx5 m p _ (by omega) _ h (by omega) k0 hne D r hr⟩
  · cases hF with
    | n => exact ⟨p, _, _, _, .o, by omega, hq, hpu, hW, by omega, fun r hr => kw_otherN n fu rm cut at_ l ks0 was hl ha0 ha1 (i : Int) (by omega) (by omega) kind a b ks c hx5 m p [] (by omega) k0 r hr⟩
    | o => exact ⟨p, _, _, _, .o, by omega, hq, hpu, hW, by omega, fun r hr => kw_otherO n fu rm cut at_ l ks0 was hl ha0 ha1 (i : Int) (by omega) (by omega) kind a b ks c hx5 m p [] (by omega) k0 r hr⟩
    | s _ h => exact ⟨p, _, _, _, .t _ h, by omega, hq, hpu, hW, by omega, fun r hr => kw_otherS n fu rm cut at_ l ks0 was hl ha0 ha1 (i : Int) (by omega) (by omega) kind a b ks c hx5 m p [] (by omega) _ h (by omega) k0 r hr⟩
    | t _ h => exact ⟨p, _, _, _, .t _ h, by omega, hq, hpu, hW, by omega, fun r hr => kw_otherT n fu rm cut at_ l ks0 was hl ha0 ha1 (i : Int) (by omega) (by omega) kind a b ks c hx5 m p [] (by omega) _ h (by omega) k0 r hr⟩
theorem kw_done (n fu : Nat) (rm cut at_ : Int) (l : List Act5) (ks0 was : List Int) (hl : l.length ≤ 60) (m : List (Int × List Int)) (p : List (Int × Option (List Int))) (W : List (List Int)) (hWl : W.length ≤ 60) (wv : LV) (S : St) (hF : KF rm m p W wv S) :
    loopAt Tryd.prog C0 (n + 200) 4 1 0 (fu + 1) (kwE cut at_ l ks0 was wv l.length) S = some (.exit 2, kwX cut at_ l ks0 was wv l.length, S) := by
  cases hF with
  | n => exact kw_endN n fu rm cut at_ l ks0 was hl m p
  | o => exact kw_endO n fu rm cut at_ l ks0 was hl m p
  | s _ h => exact kw_endS n fu rm cut at_ l ks0 was hl m p _ h (by omega)
  | t _ h => exact kw_endT n fu rm cut at_ l ks0 was hl m p _ h (by omega)
theorem kw_loop (n : Nat) (rm cut at_ : Int) (l : List Act5) (ks0 was : List Int) (hl : l.length ≤ 60) (hL : l.all Light = true) (ha0 : 0 ≤ at_) (ha1 : at_ ≤ 1000) (m : List (Int × List Int)) : ∀ (j i fu : Nat) (p : List (Int × Option (List Int))) (W : List (List Int)) (wv : LV) (S : St), i + j = l.length → j < fu → p.length ≤ i → okQ p → puts p → W = atW at_ p → W.length ≤ i → KF rm m p W wv S →
    ∃ p' W' wv' S', KF rm m p' W' wv' S' ∧ p'.length ≤ 60 ∧ okQ p' ∧ puts p' ∧ W' = atW at_ p' ∧ W'.length ≤ 60 ∧ loopAt Tryd.prog C0 (n + 200) 4 1 0 fu (kwE cut at_ l ks0 was wv i) S = some (.exit 2, kwX cut at_ l ks0 was wv' l.length, S')
  | 0, i, fu, p, W, wv, S, hi, hf, hp, hq, hpu, hW, hWl, hF => by
    obtain ⟨fu, rfl⟩ : ∃ q, fu = q + 1 := ⟨fu - 1, by omega⟩
    obtain rfl : i = l.length := by omega
    exact ⟨p, W, wv, S, hF, by omega, hq, hpu, hW, by omega, kw_done n fu rm cut at_ l ks0 was hl m p W (by omega) wv S hF⟩
  | j + 1, i, fu, p, W, wv, S, hi, hf, hp, hq, hpu, hW, hWl, hF => by
    obtain ⟨fu, rfl⟩ : ∃ q, fu = q + 1 := ⟨fu - 1, by omega⟩
    have hlt : i < l.length := by omega
    have hx : l[i]? = some l[i] := List.getElem?_eq_getElem hlt
    have hLx : Light l[i] = true := List.all_eq_true.1 hL _ (List.getElem_mem hlt)
    obtain ⟨p1, W1, wv1, S1, f1, f2, f3, f4, f5, f6, st⟩ := kw_any n fu rm cut at_ l ks0 was hl ha0 ha1 i hlt _ hx hLx m p hp hq hpu W hW hWl wv S hF
    obtain ⟨p', W', wv', S', g1, g2, g3, g4, g5, g6, g7⟩ := kw_loop n rm cut at_ l ks0 was hl hL ha0 ha1 m j (i + 1) fu p1 W1 wv1 S1 (by omega) (by omega) f2 f3 f4 f5 f6 f1
    exact ⟨p', W', wv', S', g1, g2, g3, g4, g5, g6, st _ g7⟩
theorem atW_64 (a : Int) : ∀ {p : List (Int × Option (List Int))}, puts p → ∀ y ∈ atW a p, y.length = 64
  | [], _, y, hy => by simp [atW] at hy
  | (k, some b) :: p, h, y, hy => by
    have ih := atW_64 a (p := p) (fun x hx => h x (by simp [hx]))
    simp only [atW] at hy
    split at hy
    · rcases List.mem_cons.1 hy with rfl | hy
      · obtain ⟨c, h1, h2⟩ := h (k, some y) (by simp)
        injection h1 with h1; rw [h1]; exact h2
      · exact ih y hy
    · exact ih y hy
  | (k, none) :: p, h, y, hy => atW_64 a (p := p) (fun x hx => h x (by simp [hx])) y (by simpa [atW] using hy)
theorem good_mx {b was : List Int} (hb : b.length = 64) {A : List (List Int)} (h64 : ∀ y ∈ A, y.length = 64) (h : Good was A b) (hne : ¬ b = was) : ∃ k z, k < A.length ∧ A[k]? = some z ∧ mxB b z was A k = true := by
  rcases h with h | ⟨k, x, h1, h2⟩
  · exact absurd h hne
  · have hx := h64 x (List.mem_of_getElem? h1)
    refine ⟨k, x, (List.getElem?_eq_some_iff.1 h1).1, h1, ?_⟩
    unfold mxB
    rcases h2 with h2 | ⟨j, y, h2, h3, h4⟩
    · rw [bgB_begun hx h2, Bool.true_or]
    · rw [Bool.or_eq_true]
      right
      rw [List.any_eq_true]
      exact ⟨y, List.mem_of_getElem? (i := j) (by rw [List.getElem?_take, if_pos h2]; exact h3), bgB_begun hx h4⟩
theorem keeps_ok (rm cut at_ : Int) (l : List Act5) (ks : List Int) (h0 : 0 ≤ rm) (h1 : rm ≤ 255) :
    lrun Tryd.prog C0 (lcall Tryd.prog C0 (400 + 200)) (400 + 200) 4 [.int .u8 rm, .isl 5 (ops5 l), .isl 1 (ints ks), .int .i64 cut, .int .i64 at_] ⟨0, []⟩ = some (.bool true, ⟨0, []⟩) := by
  cases hL : lightB l with
  | false => exact keeps_heavy1 400 rm cut at_ l ks hL works_more
  | true =>
  by_cases hk : ks.length ≤ 100
  case neg => exact keeps_heavy2 400 rm cut at_ l ks hL (by omega) works_more
  by_cases ha : 0 ≤ at_
  case neg => exact keeps_heavy3 400 rm cut at_ l ks hL hk (by omega) works_more
  by_cases ha2 : at_ ≤ 1000
  case neg => exact keeps_heavy4 400 rm cut at_ l ks hL hk (by omega) works_more
  have hL2 := hL
  simp only [lightB, Bool.and_eq_true, decide_eq_true_eq] at hL2
  obtain ⟨hlen, hall⟩ := hL2
  obtain ⟨m, p, F, hm, hq, hp⟩ := keeps_loop rm cut at_ l ks hlen hall h0 h1 l.length 0 600 [] [] (by omega) (by omega) okM.nil okQ.nil (by simp) (by simpa [needs, pendN] using h0)
  have Y : ∀ j, 590 ≤ j + 190 → lrun Tryd.prog C0 (lcall Tryd.prog C0 (j + 190)) (j + 190) 17 [.ptr 0 0] ⟨1, [(0, dO rm m p)]⟩ = some (.tup [], ⟨1, [(0, dO rm (applyM p m) [])]⟩) := fun j hj => by
    have := sync_any (j + 149) rm m p (by omega) (by omega) hq.ok64
    exact this
  have hm1 := hm.apply hq
  generalize applyM p m = m1 at Y hm1
  have R0 : ∀ j, lrun Tryd.prog C0 (lcall Tryd.prog C0 (j)) (j) 18 [.ptr 0 0, .int .i64 at_] ⟨1, [(0, dO rm m1 [])]⟩ = some (.tup [.isl 1 (bys (cur m1 at_)), .nili], ⟨1, [(0, dO rm m1 [])]⟩) := fun j => by
    have := dread_ok j rm m1 [] at_ ha (by omega) (by simp) okQ.nil.ok64.okP
    rwa [rd_nil] at this
  obtain ⟨p1, W, wv, S, hF, hp1, hq1, hpu, hW, hWl, G⟩ := kw_loop 400 rm cut at_ l ks (cur m1 at_) hlen hall ha ha2 m1 l.length 0 600 [] [] .nils _ (by omega) (by omega) (by simp) okQ.nil (fun x hx => nomatch hx) rfl (by simp) .n
  have K := fun j (hj : 590 ≤ j + 60) => crash_any j rm m1 p1 (by omega) (by omega) hq1.ok64 ks cut
  have hgood := crashD_good at_ m1 p1 hpu ks cut
  have hm2 := (crashM_ok ks cut (lastK ks p1.length) p1 0 m1 hq1 hm1).1
  have R1 : ∀ j, lrun Tryd.prog C0 (lcall Tryd.prog C0 (j)) (j) 18 [.ptr 0 0, .int .i64 at_] ⟨1, [(0, dO rm (crashD m1 p1 ks cut) [])]⟩ = some (.tup [.isl 1 (bys (cur (crashD m1 p1 ks cut) at_)), .nili], ⟨1, [(0, dO rm (crashD m1 p1 ks cut) [])]⟩) := fun j => by
    have := dread_ok j rm (crashD m1 p1 ks cut) [] at_ ha (by omega) (by simp) okQ.nil.ok64.okP
    rwa [rd_nil] at this
  have hwas := cur_length m1 at_
  have hb := cur_length (crashD m1 p1 ks cut) at_
  generalize crashD m1 p1 ks cut = m2 at K hgood R1 hb
  generalize cur m1 at_ = was at R0 G hgood hwas
  generalize cur m2 at_ = b at R1 hgood hb
  have Sm := fun j (hj : 590 ≤ j + 20) => same_any j b was (by omega) (by omega) (by omega)
  have h64 := atW_64 at_ hpu
  rw [← hW] at hgood h64
  by_cases he : b = was
  · simp only [he, decide_true] at Sm
    subst he
    cases hF with
    | n => exact kt_sameN 400 rm cut at_ l ks hL hlen hk h0 h1 ha ha2 (by omega) m m1 m2 p p1 (by omega) F Y b hwas R0 G K b hb R1 Sm works_more
    | o => exact kt_sameO 400 rm cut at_ l ks hL hlen hk h0 h1 ha ha2 (by omega) m m1 m2 p p1 (by omega) F Y b hwas R0 G K b hb R1 Sm works_more
    | s _ h => exact kt_sameS 400 rm cut at_ l ks hL hlen hk h0 h1 ha ha2 (by omega) m m1 m2 p p1 (by omega) _ h (by omega) F Y b hwas R0 G K b hb R1 Sm works_more
    | t _ h => exact kt_sameT 400 rm cut at_ l ks hL hlen hk h0 h1 ha ha2 (by omega) m m1 m2 p p1 (by omega) _ h (by omega) F Y b hwas R0 G K b hb R1 Sm works_more
  · simp only [he, decide_false] at Sm
    obtain ⟨k, z, g1, g2, g3⟩ := good_mx hb h64 hgood he
    obtain ⟨x, q, H⟩ := km_loop 400 was b hb hwas W (by omega) h64 (by omega) works_more k g1 z g2 g3 k 0 600 (by omega) (by omega)
    cases hF with
    | n => simp at g1
    | o => simp at g1
    | s _ h => exact kt_loopS 400 rm cut at_ l ks hL hlen hk h0 h1 ha ha2 (by omega) m m1 m2 p p1 (by omega) _ h (by omega) F Y was hwas R0 G K b hb R1 Sm x q H works_more
    | t _ h => exact kt_loopT 400 rm cut at_ l ks hL hlen hk h0 h1 ha ha2 (by omega) m m1 m2 p p1 (by omega) _ h (by omega) F Y was hwas R0 G K b hb R1 Sm x q H works_more
end Go.Mac

namespace Go.Mac
open Go Go.Eng Go.Proofs
set_option maxHeartbeats 0
set_option maxRecDepth 100000
set_option linter.unusedSimpArgs false
def C1 : Cfg := ⟨fun _ => none, fun f => f == 35⟩
theorem right_ok1 (n : Nat) (at_ : Int) (h : 0 ≤ at_) (h2 : at_ ≤ 1073741824) : lrun Tryd.prog C1 (lcall Tryd.prog C1 (n + 9)) (n + 9) 39 [.int .i64 at_] ⟨0, []⟩ = some (.nili, ⟨0, []⟩) := by
  have f1 : decide (at_ < 0) = false := by (simp [-List.reduceReplicate]; omega)
  have f2 : LV.bool (if decide (at_ < 0) = true then true else decide (1073741824 < at_)) = LV.bool false := by (simp [-List.reduceReplicate]; omega)
  exact drun_ok (fun h => And.intro (congrArg some f1) <| And.intro (congrArg some f1) <| And.intro (f2) <| h) (.s (.a) (.s (.s (.r [.a, .a, .a, .g false (.a), .g false (.a), .v (vOf f2) (.a)]) (.a)) (.a))) [] .a (by kernel_rfl)
theorem right_no1 (n : Nat) (at_ : Int) (h : at_ < 0 ∨ 1073741824 < at_) : lrun Tryd.prog C1 (lcall Tryd.prog C1 (n + 9)) (n + 9) 39 [.int .i64 at_] ⟨0, []⟩ = some (.ifc 95 (.agg [.str [98,108,111,99,107], .int .i64 at_, .ifc 31 (.int .i64 2)]), ⟨0, []⟩) := by
  by_cases h1 : at_ < 0
  · have f1 : decide (at_ < 0) = true := by (simp [-List.reduceReplicate]; omega)
    have f2 : lpick (decide (at_ < 0)) (LV.bool true) LV.any = some (LV.bool true) := by (simp [-List.reduceReplicate]; omega)
    exact drun_ok (fun h => And.intro (congrArg some f1) <| And.intro (congrArg some f1) <| And.intro (x_map (st := (St.mk 0 [])) f2) <| h) (.s (.a) (.s (.s (.r [.a, .a, .a, .g true (.a), .g true (.a), .t (rOf (x_map (st := (St.mk 0 [])) f2))]) (.a)) .a)) [] .a (by kernel_rfl)
  · have : 1073741824 < at_ := by omega
    have f1 : decide (at_ < 0) = false := by (simp [-List.reduceReplicate]; omega)
    have f2 : LV.bool (if decide (at_ < 0) = true then true else decide (1073741824 < at_)) = LV.bool true := by (simp [-List.reduceReplicate]; omega)
    exact drun_ok (fun h => And.intro (congrArg some f1) <| And.intro (congrArg some f1) <| And.intro (f2) <| h) (.s (.a) (.s (.s (.r [.a, .a, .a, .g false (.a), .g false (.a), .v (vOf f2) (.a)]) (.a)) .a)) [] .a (by kernel_rfl)
theorem whole_ok1 (n : Nat) (b : List Int) : lrun Tryd.prog C1 (lcall Tryd.prog C1 (n + 9)) (n + 9) 35 [.isl 1 (bys b)] ⟨0, []⟩ = some (.sl 1 0 0 64 none, ⟨1, [(0, .row 5 1 (bys (blk b)))]⟩) := by
  have f1 : okElems true 1 (sealL (bys b)) = true := by simp
  have f2 : 64 ≤ 64 := by omega
  have f3 : LV.int IntKind.i64 (↑(min (List.length (sealL (bys b))) 64) : Int) = LV.int IntKind.i64 (↑(min (List.length b) 64) : Int) := by simp
  have f4 : LObj.row 5 1 (lsplice (List.replicate 64 (LV.int IntKind.u8 0)) 0 (List.take (min (List.length (sealL (bys b))) 64) (sealL (bys b)))) = LObj.row 5 1 (bys (spliceI (List.replicate 64 0) 0 (List.take (min (List.length b) 64) b))) := by simp
  exact drun_ok (fun h => And.intro (f1) <| And.intro (f2) <| And.intro (f3) <| And.intro (congrArg some f4) <| h) (.s (.a) (.s (.a) (.s (.r [.a, .a, .x 0 (vOf f4) (.v (vOf f3) (.q))]) (.a)))) [] .a (by kernel_rfl)
theorem whole_nil1 (n : Nat) : lrun Tryd.prog C1 (lcall Tryd.prog C1 (n + 9)) (n + 9) 35 [.nils] ⟨0, []⟩ = some (.sl 1 0 0 64 none, ⟨1, [(0, .row 5 1 (bys (blk [])))]⟩) := by
  exact drun_ok (fun h => h) (.a) [] .a (by kernel_rfl)
end Go.Mac

namespace Go.Proofs.YtddbfjgodbfaoaaDoor.T
open Go Go.Eng Go.Mac Go.Proofs.YtddbfjgodbfaoaaDoor.Ty
set_option linter.unusedSimpArgs false
set_option linter.unusedVariables false

theorem extC1 : ExtSound Tryd.prog C1 := fun f F h => by simp [C1] at h
theorem mixed : Tryd.prog.follows .mixedOrders = true := by kernel_rfl
def R1 : Inst := ⟨id, id, fun _ => false⟩
theorem Meets.wkpost {P : Program} {f : FuncId} {as_ : List AV} {s : Hp} {K : AV → Hp → Prop} (h : Meets P f as_ s (fun r t => ∃ r' t', Wk r r' ∧ HpWk t t' ∧ K r' t')) : Meets P f as_ s K :=
  Meets.sw (h.mono fun r t ⟨r', t', h1, h2, h3⟩ => ⟨r', t', SW.wk (fun _ => h1) h2, h3⟩)
theorem meets_run {n : Nat} {f : FuncId} {as_ : List LV} {v : LV} {st : St} (h : lrun Tryd.prog C1 (lcall Tryd.prog C1 n) n f as_ ⟨0, []⟩ = some (v, st)) (hr : refsL as_ = []) {K : AV → Hp → Prop}
    (hk : ∀ R t, SRel Tryd.prog R st t → (∀ b ∈ refs v, b < st.next) → K (inst R true v) t) : Meets Tryd.prog f (instL R1 true as_) [] K := by
  have := lrun_sound extC1 mixed (lcall_sound extC1 mixed n) h R1 [] (SRel.empty _ _) (by rw [hr]; simp)
  refine Meets.wkpost (this.mono ?_)
  rintro r t ⟨R', s', _, _, g3, g4, g5, g6⟩
  exact ⟨_, s', g3, g5, hk R' s' g6 g4⟩
theorem right_av (at_ : Int) (h : 0 ≤ at_ ∧ at_ ≤ 1073741824) (s : Hp) (K : AV → Hp → Prop) (hk : K (.v .nilIface) s) : Meets Tryd.prog 39 [.v (.int .i64 at_)] s K := by
  refine Meets.alone ?_
  have := meets_run (K := fun r t => K r s) (right_ok1 0 at_ h.1 h.2) (by simp [refsL, refs]) (fun R t ht _ => by simpa [inst] using hk)
  simpa [instL, inst] using this
theorem right_av_no (at_ : Int) (h : at_ < 0 ∨ 1073741824 < at_) (s : Hp) (K : AV → Hp → Prop) (hk : K (.ifc 95 (.agg [.v (.string ⟨#[98,108,111,99,107]⟩), .v (.int .i64 at_), .v (.iface 31 (.int .i64 2))])) s) : Meets Tryd.prog 39 [.v (.int .i64 at_)] s K := by
  refine Meets.alone ?_
  have := meets_run (K := fun r t => K r s) (right_no1 0 at_ h) (by simp [refsL, refs]) (fun R t ht _ => by simpa [inst, instL, mkIfc] using hk)
  simpa [instL, inst] using this
def cel (b : List Int) : List AV := b.map fun n => .v (.int .u8 n)
theorem cel_bys (R : Inst) (l : Bool) (b : List Int) : instL R l (bys b) = cel b := by
  rw [instL_eq]; unfold bys cel
  rw [List.map_map]
  apply List.map_congr_left
  intro x _
  cases l <;> simp [inst]
theorem cel_flat (b : List Int) : (cel b).flatMap cellsOf = cel b := by
  unfold cel
  induction b with
  | nil => rfl
  | cons x b ih => rw [List.map_cons, List.flatMap_cons, ih]; rfl
theorem whole_end {b : List Int} {R : Inst} {t : Hp} (ht : SRel Tryd.prog R ⟨1, [(0, .row 5 1 (bys (blk b)))]⟩ t) :
    ∃ q cap, 64 ≤ cap ∧ cap ≤ maxLen ∧ inst R true (.sl 1 0 0 64 none) = .v (.slice (some ⟨q, 0, none⟩) 64 cap) ∧ t = [(q, .cells 5 (cel (blk b)) (cap * 1))] := by
  have he := ht.ents
  cases he with
  | cons ho hrest =>
    cases hrest
    generalize hx : bys (blk b) = xs at ho
    have hxl : xs.length = 64 := by rw [← hx]; simp
    cases ho with
    | rowNil _ _ hz => simp at hxl
    | row _ _ _ hz ok =>
      subst hx
      refine ⟨R.ρ 0, R.κ 0, ?_, ok.cap, ?_, ?_⟩
      · have := ok.le; rw [hxl] at this; exact this
      · simp [inst, slInst, hz]
      · rw [cel_bys, cel_flat]; rfl
theorem whole_av (b : List Int) (s : Hp) (K : AV → Hp → Prop) (hk : ∀ q cap, q ∉ s.keys → 64 ≤ cap → cap ≤ maxLen → K (.v (.slice (some ⟨q, 0, none⟩) 64 cap)) ((q, .cells 5 (cel (blk b)) (cap * 1)) :: s)) :
    Meets Tryd.prog 35 [.sl 1 (cel b)] s K := by
  have h0 : Meets Tryd.prog 35 [.sl 1 (cel b)] [] (fun r t => ∃ q cap, 64 ≤ cap ∧ cap ≤ maxLen ∧ r = .v (.slice (some ⟨q, 0, none⟩) 64 cap) ∧ t = [(q, .cells 5 (cel (blk b)) (cap * 1))]) := by
    have := meets_run (K := fun r t => ∃ q cap, 64 ≤ cap ∧ cap ≤ maxLen ∧ r = .v (.slice (some ⟨q, 0, none⟩) 64 cap) ∧ t = [(q, .cells 5 (cel (blk b)) (cap * 1))]) (whole_ok1 0 b) (by simp [refsL, refs]) (fun R t ht _ => by
      obtain ⟨q, cap, h1, h2, h3, h4⟩ := whole_end ht
      exact ⟨q, cap, h1, h2, h3, h4⟩)
    simpa [instL, inst, cel_bys] using this
  refine Meets.kn (Meets.frame (s := []) (t := s) (h0.mono ?_))
  rintro r t ⟨q, cap, h1, h2, rfl, rfl⟩
  intro hn
  exact hk q cap (List.nodup_cons.1 hn).1 h1 h2
theorem whole_av_nil (s : Hp) (K : AV → Hp → Prop) (hk : ∀ q cap, q ∉ s.keys → 64 ≤ cap → cap ≤ maxLen → K (.v (.slice (some ⟨q, 0, none⟩) 64 cap)) ((q, .cells 5 (cel (blk [])) (cap * 1)) :: s)) :
    Meets Tryd.prog 35 [.v (.slice none 0 0)] s K := by
  have h0 : Meets Tryd.prog 35 [.v (.slice none 0 0)] [] (fun r t => ∃ q cap, 64 ≤ cap ∧ cap ≤ maxLen ∧ r = .v (.slice (some ⟨q, 0, none⟩) 64 cap) ∧ t = [(q, .cells 5 (cel (blk [])) (cap * 1))]) := by
    have := meets_run (K := fun r t => ∃ q cap, 64 ≤ cap ∧ cap ≤ maxLen ∧ r = .v (.slice (some ⟨q, 0, none⟩) 64 cap) ∧ t = [(q, .cells 5 (cel (blk [])) (cap * 1))]) (whole_nil1 0) (by simp [refsL, refs]) (fun R t ht _ => by
      obtain ⟨q, cap, h1, h2, h3, h4⟩ := whole_end ht
      exact ⟨q, cap, h1, h2, h3, h4⟩)
    simpa [instL, inst] using this
  refine Meets.kn (Meets.frame (s := []) (t := s) (h0.mono ?_))
  rintro r t ⟨q, cap, h1, h2, rfl, rfl⟩
  intro hn
  exact hk q cap (List.nodup_cons.1 hn).1 h1 h2
def optC : Option (List Int) → AV
  | none => .v (.slice none 0 0)
  | some b => .sl 1 (cel b)
theorem optC_one (w : Option (List Int)) : (optC w).one = true := by cases w <;> rfl
theorem whole_any (o : Option (List Int)) (s : Hp) (K : AV → Hp → Prop) (hk : ∀ q cap, q ∉ s.keys → 64 ≤ cap → cap ≤ maxLen → K (.v (.slice (some ⟨q, 0, none⟩) 64 cap)) ((q, .cells 5 (cel (blk (o.getD []))) (cap * 1)) :: s)) :
    Meets Tryd.prog 35 [optC o] s K := by
  cases o with
  | none => exact whole_av_nil s K hk
  | some b => exact whole_av b s K hk
def pC (w : Int × Option (List Int)) : AV := .agg [.v (.int .i64 w.1), optC w.2]
def lastC (at_ : Int) : List (Int × Option (List Int)) → Option (Option (List Int))
  | [] => none
  | (a, b) :: l => match lastC at_ l with
    | some x => some x
    | none => if a = at_ then some b else none
theorem lastC_take {at_ : Int} : ∀ {ps : List (Int × Option (List Int))} {i : Nat}, (∀ j (h : j < ps.length), i < j → ps[j].1 ≠ at_) → (h : i < ps.length) → ps[i].1 = at_ → lastC at_ ps = some ps[i].2
  | [], i, _, h, _ => by simp at h
  | (a, b) :: l, 0, hn, h, he => by
    have hl : ∀ l : List (Int × Option (List Int)), (∀ x ∈ l, x.1 ≠ at_) → lastC at_ l = none := by
      intro l
      induction l with
      | nil => intro _; rfl
      | cons x l ih =>
        intro hx
        unfold lastC
        rw [ih (fun y hy => hx y (List.mem_cons_of_mem _ hy)), if_neg (hx x List.mem_cons_self)]
    have : lastC at_ l = none := hl l (fun x hx => by
      obtain ⟨j, hj, rfl⟩ := List.mem_iff_getElem.1 hx
      exact hn (j + 1) (by simpa using hj) (by omega))
    have he' : a = at_ := he
    unfold lastC
    rw [this, if_pos he']
    rfl
  | (a, b) :: l, i + 1, hn, h, he => by
    have := lastC_take (ps := l) (i := i) (fun j hj hij => by have := hn (j + 1) (by simpa using hj) (by omega); simpa using this) (by simpa using h) (by simpa using he)
    unfold lastC
    rw [this]
    rfl
theorem lastC_none {at_ : Int} : ∀ {l : List (Int × Option (List Int))}, (∀ x ∈ l, x.1 ≠ at_) → lastC at_ l = none
  | [], _ => rfl
  | x :: l, hx => by
    unfold lastC
    rw [lastC_none (fun y hy => hx y (List.mem_cons_of_mem _ hy)), if_neg (hx x List.mem_cons_self)]
def readC (at_ : Int) (es : List (Int × List Int)) (ps : List (Int × Option (List Int))) : List Int :=
  match lastC at_ ps with
  | some o => blk (o.getD [])
  | none => blk ((Pl.pget es at_).getD [])
def mC (es : List (Int × List Int)) : List (Int × AV) := Pl.gmap (fun b => .sl 1 (cel b)) es
end Go.Proofs.YtddbfjgodbfaoaaDoor.T

namespace Go.Proofs.YtddbfjgodbfaoaaDoor.T
open Go Go.Eng Go.Proofs.YtddbfjgodbfaoaaDoor.Ty
set_option linter.unusedSimpArgs false
set_option linter.unusedVariables false
theorem back_av (xs : List AV) (s : Hp) (K : AV → Hp → Prop) (hk : ∀ p, p ∉ s.keys → K (.v (.func (.func 56) #[] #[.pointer (some ⟨p, 0, none⟩)])) ((p, .cells 62 [.sl 2 xs] 1) :: s)) :
    Meets Tryd.prog 40 [.sl 2 xs] s K := by
  have h0 : Meets Tryd.prog 40 [.sl 2 xs] [] (fun r t => ∃ p, r = .v (.func (.func 56) #[] #[.pointer (some ⟨p, 0, none⟩)]) ∧ t = [(p, .cells 62 [.sl 2 xs] 1)]) := by
    obtain ⟨K', hK'⟩ : ∃ K' : AV → Hp → Prop, K' = (fun r t => ∃ p, r = .v (.func (.func 56) #[] #[.pointer (some ⟨p, 0, none⟩)]) ∧ t = [(p, .cells 62 [.sl 2 xs] 1)]) := ⟨_, rfl⟩
    rw [← hK']
    refine Meets.body Tryd.func40 rfl rfl (by simp [Tryd.ntmps40]) ?_
    repeat' (first | refine AW.seq ?_ | ((first | refine AW.reg (by rfl) ?_ | refine AW.skip ?_ | refine AW.ret ?_ | refine AW.exit ?_); simp only [undef, aops, aop, ev, ofValue, put_some, AThen, entry_get, List.getD_cons_zero, cells_sl, List.length_cons, List.length_nil, List.all_cons, List.all_nil, one_sl, Bool.and_self, true_and, Nat.zero_add, abox, hp_notin_nil, forall_const, Tryd.results40]) | refine AW.block ?_ | with_reducible refine AW.condT rfl ?_ | with_reducible refine AW.condF rfl ?_)
    intro p
    repeat' (first | refine AW.seq ?_ | ((first | refine AW.reg (by rfl) ?_ | refine AW.skip ?_ | refine AW.ret ?_ | refine AW.exit ?_); simp only [aops, aop, ev, put_some, AThen, APost, ares, oneOrTup, upd_get, Nat.reduceEqDiff, ↓reduceIte, List.map_cons, List.map_nil, amakeFunc, flats, Option.map_some]) | refine AW.block ?_ | with_reducible refine AW.condT rfl ?_ | with_reducible refine AW.condF rfl ?_)
    rw [hK']
    exact ⟨p, rfl, rfl⟩
  refine Meets.kn (Meets.frame (s := []) (t := s) (h0.mono ?_))
  rintro r t ⟨p, rfl, rfl⟩
  intro hn
  exact hk p (List.nodup_cons.1 hn).1
theorem read_av (rm at_ : Int) (h : 0 ≤ at_ ∧ at_ ≤ 1073741824) (es : List (Int × List Int)) (ps : List (Int × Option (List Int))) (hlen : ps.length ≤ 1048576) :
    Meets Tryd.prog 18 [.rp (.agg [.v (.int .i64 rm), .mp .i64 (mC es), .sl 2 (ps.map pC)]), .v (.int .i64 at_)] [] (fun r t => ∃ q cap t', 64 ≤ cap ∧ cap ≤ maxLen ∧ r = .tup [.v (.slice (some ⟨q, 0, none⟩) 64 cap), .v .nilIface] ∧ t' = [(q, .cells 5 (cel (readC at_ es ps)) (cap * 1))] ∧ t'.Sublist t) := by
  obtain ⟨K', hK'⟩ : ∃ K' : AV → Hp → Prop, K' = (fun r t => ∃ q cap t', 64 ≤ cap ∧ cap ≤ maxLen ∧ r = .tup [.v (.slice (some ⟨q, 0, none⟩) 64 cap), .v .nilIface] ∧ t' = [(q, .cells 5 (cel (readC at_ es ps)) (cap * 1))] ∧ t'.Sublist t) := ⟨_, rfl⟩
  rw [← hK']
  refine Meets.body Tryd.func18 rfl rfl (by simp [Tryd.ntmps18]) ?_
  repeat' (first | refine AW.seq ?_ | ((first | refine AW.reg (by rfl) ?_ | refine AW.skip ?_ | refine AW.ret ?_ | refine AW.exit ?_); simp only [undef, aops, aop, ev, put_some, AThen, entry_get, List.getD_cons_zero, List.getD_cons_succ, Value.cells, cells_v, List.map_cons, List.map_nil, List.length_cons, List.length_nil, List.all_cons, List.all_nil, one_v, Value.oneCell', Bool.and_self, true_and, and_true, Nat.zero_add, abox, aalloc, ne_eq, List.size_toArray, hp_notin_nil, hp_notin_cons, and_imp, forall_const, zero_38, zero_27, Tryd.results18]) | refine AW.block ?_ | with_reducible refine AW.condT rfl ?_ | with_reducible refine AW.condF rfl ?_)
  intro b3 b4 h43 b5 h54 h53
  repeat' (first | refine AW.seq ?_ | ((first | refine AW.reg (by rfl) ?_ | refine AW.skip ?_ | refine AW.ret ?_ | refine AW.exit ?_); simp only [aops, aop, acall, ev, put_some, AThen, upd_get, Nat.reduceEqDiff, ↓reduceIte, List.map_cons, List.map_nil, List.nil_append, List.append_nil, List.getElem?_cons_zero, aload, aloadG, gndFor, hp_get_cons, agg_3, h43,h53]) | refine AW.block ?_ | with_reducible refine AW.condT rfl ?_ | with_reducible refine AW.condF rfl ?_)
  refine right_av at_ h _ _ ?_
  skip
  repeat' (first | refine AW.seq ?_ | ((first | refine AW.reg (by rfl) ?_ | refine AW.skip ?_ | refine AW.ret ?_ | refine AW.exit ?_); simp only [undef, aops, aop, acall, ev, ofValue, put_some, AThen, upd_get, entry_get, ↓reduceIte, List.getD_cons_zero, List.map_cons, List.map_nil, List.nil_append, List.append_nil, List.getElem?_cons_zero, List.getElem?_cons_succ, true_and, aload, aloadG, gndFor, abin, anil, isNilC, afieldAddr, rpart, reduceCtorEq, Bool.not_true, iface_27, field_64_2, agg_62, rpart]) | refine AW.block ?_ | with_reducible refine AW.condT rfl ?_ | with_reducible refine AW.condF rfl ?_)
  refine ⟨rfl, ?_⟩
  refine back_av _ _ _ ?_
  intro p hp
  simp only [hp_notin_cons, hp_notin_nil, and_true] at hp
  obtain ⟨hp5, hp4, hp3⟩ := hp
  skip
  repeat' (first | refine AW.seq ?_ | refine AW.block ?_ | with_reducible refine AW.condT rfl ?_ | with_reducible refine AW.condF rfl ?_)
  refine AW.gen fun e hE => ?_
  have e0 : e 0 = .rp (.agg [.v (.int .i64 rm), .mp .i64 (mC es), .sl 2 (ps.map pC)]) := hE 0
  have e3 : e 3 = .v (.pointer (some ⟨b3, 0, none⟩)) := hE 3
  have e4 : e 4 = .v (.pointer (some ⟨b4, 0, none⟩)) := hE 4
  have e5 : e 5 = .v (.pointer (some ⟨b5, 0, none⟩)) := hE 5
  have e18 : e 18 = .v (.func (.func 56) #[] #[.pointer (some ⟨p, 0, none⟩)]) := hE 18
  clear hE
  refine AW.rangeFunc 56 #[] #[.pointer (some ⟨p, 0, none⟩)] e18 ⟨_, _, Tryd.func56, rfl, by kernel_rfl⟩ ?_
  intro l rec hl hr1 hr2 hr3 hr4 hr5
  simp only [hp_notin_cons, hp_notin_nil, and_true] at hl
  obtain ⟨hlp, hl5, hl4, hl3⟩ := hl
  refine Meets.nodup fun hnd => ?_
  generalize hQ : RfEnd _ _ _ _ _ _ = K2
  show Meets _ _ [.v (.func (.yield l) #[] #[]), .v (.pointer (some ⟨p, 0, none⟩))] _ _
  refine Meets.body Tryd.func56 rfl rfl (by simp [Tryd.ntmps56]) ?_
  repeat' (first | refine AW.seq ?_ | ((first | refine AW.reg (by rfl) ?_ | refine AW.skip ?_ | refine AW.ret ?_ | refine AW.exit ?_); simp only [undef, aops, aop, acall, ev, ofValue, put_some, AThen, upd_get, entry_get, ↓reduceIte, List.getD_cons_zero, List.getD_cons_succ, List.getElem?_cons_zero, true_and, aload, aloadG, gndFor, abin, aint, alen, hp_get_cons, List.length_map, agg_62, elem_62, Tryd.results56, hlp]) | refine AW.block ?_ | with_reducible refine AW.condT rfl ?_ | with_reducible refine AW.condF rfl ?_)
  have hlen2 : IntKind.i64.wrap ((ps.length : Int) - 1) = (ps.length : Int) - 1 := wrap_i64 (by omega) (by omega)
  obtain ⟨S0, hS0⟩ : ∃ S0 : Hp, S0 = [(p, .cells 62 [.sl 2 (ps.map pC)] 1), (b5, .cells 27 [.v .nilIface] 1), (b4, .cells 38 [.v (.slice none 0 0)] 1), (b3, .cells 3 [.v (.int .i64 at_)] 1)] := ⟨_, rfl⟩
  obtain ⟨H, hH⟩ : ∃ H : Nat → Env → Hp → Prop, H = fun mm e' st => ∃ (i : Nat), i ≤ ps.length ∧ st = (l, .lp rec Tryd.f18.ntmps e) :: S0 ∧ mm = i ∧ e' 0 = .v (.func (.yield l) #[] #[]) ∧ e' 1 = .v (.pointer (some ⟨p, 0, none⟩)) ∧ e' 3 = .v (.int .i64 ((i : Int) - 1)) ∧
      (∀ j (h : j < ps.length), i ≤ j → ps[j].1 ≠ at_) := ⟨_, rfl⟩
  refine (AW.loop H ps.length ?_ ?_)
  · rw [hH, hS0]
    exact ⟨ps.length, Nat.le_refl _, rfl, rfl, rfl, rfl, by simp only [upd_get]; rw [if_pos trivial, hlen2], fun j h hj => absurd hj (by omega)⟩
  intro mm e' st hst
  rw [hH] at hst
  obtain ⟨i, hi, rfl, rfl, f0, f1, f3, hno⟩ := hst
  cases mm with
  | zero =>
    have hge : decide (0 ≤ ((0 : Nat) : Int) - 1) = false := by simp
    repeat' (first | refine AW.seq ?_ | ((first | refine AW.reg (by rfl) ?_ | refine AW.skip ?_ | refine AW.ret ?_ | refine AW.exit ?_); simp only [aops, aop, ev, ofValue, put_some, AThen, ABlock, APost, ares, upd_get, ↓reduceIte, true_and, abin, aint, Int.cast_ofNat_Int, Int.reduceLE, Int.reduceSub, Int.reduceNeg, decide_false, f3]) | refine AW.block ?_ | with_reducible refine AW.condT rfl ?_ | with_reducible refine AW.condF rfl ?_)
    rw [← hQ]
    refine ⟨S0, rec, rfl, by rw [hr1]; simp, ?_⟩
    rw [hr2]
    simp only [ABlock, AThen]
    refine AW.seq ?_
    refine AW.drw 5 rfl rfl rfl ?_
    rw [hS0]
    simp only [undef, aops, aop, acall, ev, ofValue, put_some, put_none, AThen, upd_get, Nat.reduceEqDiff, ↓reduceIte, cells_v, splice, List.map_cons, List.map_nil, List.length_cons, List.length_nil, List.take_succ_cons, List.take_zero, List.drop_succ_cons, List.drop_zero, List.nil_append, List.cons_append, List.append_nil, List.getElem?_cons_zero, List.getElem?_cons_succ, List.all_cons, List.all_nil, one_v, Value.oneCell', Bool.and_self, true_and, and_true, Nat.zero_add, aload, aloadG, gndFor, gndL, astore, afieldAddr, rpart, alookup, Option.map_some, hp_get_cons, hp_notin_nil, hp_get_out, Bool.false_eq_true, qops, qop, exists_eq_left', and_assoc, exists_and_left, agg_3, zero_38, agg_38, agg_27, field_64_1, agg_61, map_61, e0, e3, e4, e5, rpart, h43, h53, hp3]
    refine ⟨rfl, ?_⟩
    have hmg : Eng.mget (mC es) at_ = (Pl.pget es at_).map (fun b => .sl 1 (cel b)) := Pl.mget_gmap _ _ _
    have hlast : lastC at_ ps = none := lastC_none (fun x hx => by
      obtain ⟨j, hj, rfl⟩ := List.mem_iff_getElem.1 hx
      exact hno j hj (Nat.zero_le _))
    have fin : ∀ (b : List Int), (Pl.pget es at_).getD [] = b → ∀ (q cap : Nat) (t : Hp), 64 ≤ cap → cap ≤ maxLen → [(q, AObj.cells 5 (cel (Mac.blk b)) (cap * 1))].Sublist t → K' (.tup [.v (.slice (some ⟨q, 0, none⟩) 64 cap), .v .nilIface]) t := by
      intro b hb q cap t h1 h2 h3
      rw [hK']
      refine ⟨q, cap, _, h1, h2, rfl, rfl, ?_⟩
      unfold readC
      rw [hlast]
      simp only [hb]
      exact h3
    rw [hmg]
    cases hpg : Pl.pget es at_ with
    | none =>
      simp only [Option.map_none]
      refine whole_av_nil _ _ ?_
      intro q cap hq h64 hmx
      simp only [hp_notin_cons, hp_notin_nil, and_true] at hq
      obtain ⟨hqp, hq5, hq4, hq3⟩ := hq
      try simp only [↓reduceIte, cells_v, List.length_cons, List.length_nil, List.drop_succ_cons, List.drop_nil, List.append_nil, List.all_cons, List.all_nil, one_v, Value.oneCell', Bool.and_self, true_and, and_true, Nat.zero_add, Nat.le_refl, ne_eq, not_false_eq_true, hp_get_cons, hp_notin_nil, hp_notin_cons, hp_set_out, hp_set_cons, Nat.mul_one, h43,h54,h53,hp5,hp4,hq5,hq4]
      repeat' (first | refine AW.seq ?_ | ((first | refine AW.reg (by rfl) ?_ | refine AW.skip ?_ | refine AW.ret ?_ | refine AW.exit ?_); simp only [APost, ares, oneOrTup, upd_get, Nat.reduceEqDiff, ↓reduceIte, List.getElem?_cons_zero, aload, hp_get_cons, agg_38, agg_27, e4,e5,h54,hp5,hp4,hq5,hq4]) | refine AW.block ?_ | with_reducible refine AW.condT rfl ?_ | with_reducible refine AW.condF rfl ?_)
      refine fin [] (by rw [hpg]; rfl) q cap _ h64 hmx ?_
      rw [Nat.mul_one]
      exact .cons_cons _ (List.nil_sublist _)
    | some bb =>
      simp only [Option.map_some]
      refine whole_av bb _ _ ?_
      intro q cap hq h64 hmx
      simp only [hp_notin_cons, hp_notin_nil, and_true] at hq
      obtain ⟨hqp, hq5, hq4, hq3⟩ := hq
      try simp only [↓reduceIte, cells_v, List.length_cons, List.length_nil, List.drop_succ_cons, List.drop_nil, List.append_nil, List.all_cons, List.all_nil, one_v, Value.oneCell', Bool.and_self, true_and, and_true, Nat.zero_add, Nat.le_refl, ne_eq, not_false_eq_true, hp_get_cons, hp_notin_nil, hp_notin_cons, hp_set_out, hp_set_cons, Nat.mul_one, h43,h54,h53,hp5,hp4,hq5,hq4]
      repeat' (first | refine AW.seq ?_ | ((first | refine AW.reg (by rfl) ?_ | refine AW.skip ?_ | refine AW.ret ?_ | refine AW.exit ?_); simp only [APost, ares, oneOrTup, upd_get, Nat.reduceEqDiff, ↓reduceIte, List.getElem?_cons_zero, aload, hp_get_cons, agg_38, agg_27, e4,e5,h54,hp5,hp4,hq5,hq4]) | refine AW.block ?_ | with_reducible refine AW.condT rfl ?_ | with_reducible refine AW.condF rfl ?_)
      refine fin bb (by rw [hpg]; rfl) q cap _ h64 hmx ?_
      rw [Nat.mul_one]
      exact .cons_cons _ (List.nil_sublist _)
  | succ i =>
    have hge : decide (0 ≤ ((i + 1 : Nat) : Int) - 1) = true := by simp
    refine AW.seq ?_
    refine AW.seq ?_
    refine AW.reg (by rfl) ?_
    simp only [aops, aop, ev, ofValue, put_some, AThen, upd_get, ↓reduceIte, true_and, abin, aint, f3]
    refine AW.condT (by simp only [ev, upd_get, if_true]; rw [hge]) ?_
    refine AW.skip ?_
    simp only [AThen]
    refine AW.seq ?_
    refine AW.block ?_
    refine AW.seq ?_
    refine AW.yield 6 (by rfl) ?_
    have hlt : i < ps.length := by omega
    have hidx : (((i + 1 : Nat) : Int) - 1).toNat = i := by omega
    have hat : (ps.map pC).getD i default = .agg [.v (.int .i64 ps[i].1), optC ps[i].2] := by rw [List.getD_eq_getElem?_getD, List.getElem?_map, List.getElem?_eq_getElem hlt]; rfl
    rw [hS0]
    simp only [ayield, List.take, List.drop, aops, aop, ev, put_some, AThen, upd_get, Nat.reduceEqDiff, ↓reduceIte, List.map_cons, List.map_nil, List.length_cons, List.length_nil, List.getElem?_cons_zero, List.getElem?_cons_succ, true_and, Nat.reduceAdd, Nat.zero_add, aload, aloadG, gndFor, aun, aindexAddr, Int.reduceNeg, hp_get_cons, reduceCtorEq, List.length_map, and_assoc, agg_62, elem_62, agg_90, f0, f1, f3, hlp, hidx, hat]
    refine ⟨by omega, by omega, l, rfl, ?_⟩
    refine YieldS.of hr1 hr2 (by rw [hr3]; rfl) (by rw [hr3]; simp [Tryd.ntmps18]) ?_
    rw [hr4, hr3, hr5]
    simp only [putAll]
    repeat' (first | refine AW.seq ?_ | ((first | refine AW.reg (by rfl) ?_ | refine AW.skip ?_ | refine AW.ret ?_ | refine AW.exit ?_); simp only [undef, aops, aop, ev, put_some, put_none, upd_get, Nat.reduceEqDiff, ↓reduceIte, Value.cells, cells_agg, splice, List.map_cons, List.map_nil, List.length_cons, List.length_nil, List.take_zero, List.drop_succ_cons, List.drop_nil, List.nil_append, List.append_nil, List.all_cons, List.all_nil, one_v, Value.oneCell', Bool.and_self, true_and, and_true, Nat.reduceAdd, Nat.zero_add, Nat.le_refl, astore, aalloc, ne_eq, List.size_toArray, Int.reduceNeg, Option.map_some, hp_get_cons, hp_notin_nil, hp_notin_cons, hp_set_out, and_imp, hp_set_cons, zero_90, agg_90, optC_one]) | refine AW.block ?_ | with_reducible refine AW.condT rfl ?_ | with_reducible refine AW.condF rfl ?_)
    intro b8 h8p h85 h84 h83
    by_cases he : ps[i].1 = at_
    · have hd : (ps[i].1 == at_) = true := by simpa using he
      have hd2 : decide (ps[i].1 = at_) = true := by simpa using he
      repeat' (first | refine AW.seq ?_ | ((first | refine AW.reg (by rfl) ?_ | refine AW.skip ?_ | refine AW.ret ?_ | refine AW.exit ?_); simp only [undef, aops, aop, acall, ev, ofValue, put_some, put_none, AThen, upd_get, Nat.reduceEqDiff, ↓reduceIte, cells_v, splice, List.map_cons, List.map_nil, List.length_cons, List.length_nil, List.take_zero, List.nil_append, List.cons_append, List.append_nil, List.getElem?_cons_zero, List.getElem?_cons_succ, List.all_cons, List.all_nil, one_v, Value.oneCell', Bool.and_self, true_and, Nat.zero_add, Nat.add_zero, aload, aloadG, gndFor, astore, abin, aint, afieldAddr, Int.reduceNeg, Option.map_some, hp_get_cons, agg_3, agg_38, agg_27, field_90_0, field_90_1, e3,e4,e5,h43,h53,hp3,h83,Ne.symm h8p,Ne.symm h85,Ne.symm h84,Ne.symm h83,hd2]) | refine AW.block ?_ | with_reducible refine AW.condT rfl ?_ | with_reducible refine AW.condF rfl ?_)
      refine whole_any _ _ _ ?_
      intro q cap hq h64 hmx
      simp only [hp_notin_cons, hp_notin_nil, and_true] at hq
      obtain ⟨hq8, hqp, hq5, hq4, hq3⟩ := hq
      try simp only [↓reduceIte, cells_v, List.length_cons, List.length_nil, List.drop_succ_cons, List.drop_nil, List.append_nil, List.all_cons, List.all_nil, one_v, Value.oneCell', Bool.and_self, true_and, and_true, Nat.zero_add, Nat.le_refl, ne_eq, not_false_eq_true, Int.reduceNeg, hp_get_cons, hp_notin_nil, hp_notin_cons, hp_set_out, hp_set_cons, Nat.mul_one, h43,h54,h53,hp5,hp4,h85,h84,hq5,hq4]
      repeat' (first | refine AW.seq ?_ | ((first | refine AW.reg (by rfl) ?_ | refine AW.skip ?_ | refine AW.ret ?_ | refine AW.exit ?_); simp only [ABlock, Int.reduceNeg]) | refine AW.block ?_ | with_reducible refine AW.condT rfl ?_ | with_reducible refine AW.condF rfl ?_)
      simp only [YEnd]
      try simp only [Bool.not_false]
      repeat' (first | refine AW.seq ?_ | ((first | refine AW.reg (by rfl) ?_ | refine AW.skip ?_ | refine AW.ret ?_ | refine AW.exit ?_); simp only [AThen, ABlock, APost, ares]) | refine AW.block ?_ | with_reducible refine AW.condT rfl ?_ | with_reducible refine AW.condF rfl ?_)
      rw [← hQ]
      refine ⟨_, _, rfl, by simp, ?_⟩
      simp only
      repeat' (first | refine AW.seq ?_ | ((first | refine AW.reg (by rfl) ?_ | refine AW.skip ?_ | refine AW.ret ?_ | refine AW.exit ?_); simp only [AThen, ABlock, APost, ares, oneOrTup, ↓reduceIte, List.getElem?_cons_zero, aload, hp_get_cons, agg_38, agg_27, e4,e5,h54,hp5,hp4,h85,h84,hq5,hq4]) | refine AW.block ?_ | with_reducible refine AW.condT rfl ?_ | with_reducible refine AW.condF rfl ?_)
      rw [hK']
      refine ⟨q, cap, _, h64, hmx, rfl, rfl, ?_⟩
      have : readC at_ es ps = Mac.blk (ps[i].2.getD []) := by
        unfold readC
        rw [lastC_take (fun j hj hij => hno j hj (by omega)) hlt he]
      rw [this, Nat.mul_one]
      exact .cons_cons _ (List.nil_sublist _)
    · have hd : (ps[i].1 == at_) = false := by simpa using he
      have hd2 : decide (ps[i].1 = at_) = false := by simpa using he
      repeat' (first | refine AW.seq ?_ | ((first | refine AW.reg (by rfl) ?_ | refine AW.skip ?_ | refine AW.ret ?_ | refine AW.exit ?_); simp only [aops, aop, ev, put_some, AThen, ABlock, upd_get, Nat.reduceEqDiff, ↓reduceIte, List.getElem?_cons_zero, true_and, Nat.add_zero, aload, aloadG, gndFor, abin, aint, afieldAddr, Int.reduceNeg, hp_get_cons, agg_3, field_90_0, e3,h43,h53,hp3,h83,Ne.symm h8p,Ne.symm h85,Ne.symm h84,Ne.symm h83,hd2]) | refine AW.block ?_ | with_reducible refine AW.condT rfl ?_ | with_reducible refine AW.condF rfl ?_)
      simp only [YEnd]
      try simp only [Bool.not_true]
      repeat' (first | refine AW.seq ?_ | ((first | refine AW.reg (by rfl) ?_ | refine AW.skip ?_ | refine AW.ret ?_ | refine AW.exit ?_); simp only [aops, aop, ev, ofValue, put_some, AThen, ABlock, upd_get, Nat.reduceEqDiff, ↓reduceIte, true_and, abin, aint, f3]) | refine AW.block ?_ | with_reducible refine AW.condT rfl ?_ | with_reducible refine AW.condF rfl ?_)
      rw [hH]
      refine ⟨i, _, by omega, ?_, ?_, i, by omega, by rw [hS0], rfl, ?_, ?_, ?_, fun j hj hij => ?_⟩
      · intro x hx
        simp only [List.mem_cons, List.not_mem_nil, or_false] at hx ⊢
        rcases hx with rfl | rfl | rfl | rfl | rfl <;> simp
      · exact hnd
      · simp [upd_get, f0]
      · simp [upd_get, f1]
      · simp only [upd_get, if_true]
        have : IntKind.i64.wrap (((i + 1 : Nat) : Int) - 1 - 1) = (i : Int) - 1 := by rw [wrap_i64 (by omega) (by omega)]; omega
        rw [this]
      · rcases Nat.lt_or_ge i j with h1 | h1
        · exact hno j hj (by omega)
        · have : j = i := by omega
          subst this; exact he
theorem read_err (rm at_ : Int) (h : at_ < 0 ∨ 1073741824 < at_) (x y : AV) (hy : y.isAgg = false) :
    Meets Tryd.prog 18 [.rp (.agg [.v (.int .i64 rm), x, y]), .v (.int .i64 at_)] [] (fun r t => r = .tup [.v (.slice none 0 0), .ifc 95 (.agg [.v (.string ⟨#[98,108,111,99,107]⟩), .v (.int .i64 at_), .v (.iface 31 (.int .i64 2))])]) := by
  obtain ⟨K', hK'⟩ : ∃ K' : AV → Hp → Prop, K' = (fun r t => r = .tup [.v (.slice none 0 0), .ifc 95 (.agg [.v (.string ⟨#[98,108,111,99,107]⟩), .v (.int .i64 at_), .v (.iface 31 (.int .i64 2))])]) := ⟨_, rfl⟩
  rw [← hK']
  refine Meets.body Tryd.func18 rfl rfl (by simp [Tryd.ntmps18]) ?_
  repeat' (first | refine AW.seq ?_ | ((first | refine AW.reg (by rfl) ?_ | refine AW.skip ?_ | refine AW.ret ?_ | refine AW.exit ?_); simp only [undef, aops, aop, ev, put_some, AThen, entry_get, List.getD_cons_zero, List.getD_cons_succ, Value.cells, cells_v, List.map_cons, List.map_nil, List.length_cons, List.length_nil, List.all_cons, List.all_nil, one_v, Value.oneCell', Bool.and_self, true_and, and_true, Nat.zero_add, abox, aalloc, ne_eq, List.size_toArray, hp_notin_nil, hp_notin_cons, and_imp, forall_const, zero_38, zero_27, Tryd.results18]) | refine AW.block ?_ | with_reducible refine AW.condT rfl ?_ | with_reducible refine AW.condF rfl ?_)
  intro b3 b4 h43 b5 h54 h53
  repeat' (first | refine AW.seq ?_ | ((first | refine AW.reg (by rfl) ?_ | refine AW.skip ?_ | refine AW.ret ?_ | refine AW.exit ?_); simp only [aops, aop, acall, ev, put_some, AThen, upd_get, Nat.reduceEqDiff, ↓reduceIte, List.map_cons, List.map_nil, List.nil_append, List.append_nil, List.getElem?_cons_zero, aload, aloadG, gndFor, hp_get_cons, agg_3, h43,h53]) | refine AW.block ?_ | with_reducible refine AW.condT rfl ?_ | with_reducible refine AW.condF rfl ?_)
  refine right_av_no at_ h _ _ ?_
  skip
  repeat' (first | refine AW.seq ?_ | ((first | refine AW.reg (by rfl) ?_ | refine AW.skip ?_ | refine AW.ret ?_ | refine AW.exit ?_); simp only [undef, aops, aop, ev, ofValue, put_some, put_none, AThen, APost, ares, oneOrTup, upd_get, Nat.reduceEqDiff, ↓reduceIte, cells_v, cells_ifc, splice, List.length_cons, List.length_nil, List.take_zero, List.drop_succ_cons, List.drop_nil, List.nil_append, List.append_nil, List.getElem?_cons_zero, List.all_cons, List.all_nil, one_v, one_ifc, Value.oneCell', Bool.and_self, true_and, and_true, Nat.zero_add, Nat.le_refl, aload, astore, abin, anil, isNilC, ne_eq, not_false_eq_true, Option.map_some, hp_get_cons, hp_notin_nil, hp_notin_cons, hp_set_out, hp_set_cons, Bool.not_false, iface_27, agg_38, agg_27, h43,h54,h53]) | refine AW.block ?_ | with_reducible refine AW.condT rfl ?_ | with_reducible refine AW.condF rfl ?_)
  rw [hK']
end Go.Proofs.YtddbfjgodbfaoaaDoor.T

namespace Go.Mac
open Go Go.Eng Go.Pl Go.Proofs Go.Proofs.YtddbfjgodbfaoaaDoor.T
set_option linter.unusedVariables false
set_option linter.unusedSimpArgs false
theorem u8s : ∀ {xs : List LV}, xs.all isU8 = true → ∃ b : List Int, xs = bys b
  | [], _ => ⟨[], rfl⟩
  | x :: xs, h => by
    simp only [List.all_cons, Bool.and_eq_true] at h
    obtain ⟨b, rfl⟩ := u8s h.2
    cases x with
    | int k n =>
      cases k <;> simp [isU8] at h
      exact ⟨n :: b, rfl⟩
    | _ => simp [isU8] at h
theorem pend_told (R : Inst) (at_ : Int) : ∀ {ps : List LV}, ps.all okW = true → ∃ pc : List (Int × Option (List Int)), instL R false ps = pc.map pC ∧ ps.map (toP R) = pc.map (fun x => (x.1, x.2.map cel)) ∧
    lastOf at_ ps = (lastC at_ pc).map (fun o => match o with | some b => LV.isl 1 (bys b) | none => .nils)
  | [], _ => ⟨[], by simp [instL], rfl, rfl⟩
  | x :: ps, h => by
    simp only [List.all_cons, Bool.and_eq_true] at h
    obtain ⟨pc, h1, h2, h3⟩ := pend_told R at_ h.2
    have hx := h.1
    unfold okW at hx
    split at hx
    · rename_i a
      refine ⟨(a, none) :: pc, ?_, ?_, ?_⟩
      · simp only [instL, List.map_cons, h1]
        simp [pC, optC, inst, instL]
      · simp [h2, toP]
      · simp only [lastOf, lastC, h3]
        cases lastC at_ pc with
        | some o => simp
        | none =>
          simp only [Option.map_none]
          split <;> simp
    · rename_i a y ys
      obtain ⟨b, hb⟩ := u8s hx
      refine ⟨(a, some b) :: pc, ?_, ?_, ?_⟩
      · simp only [instL, List.map_cons, h1]
        simp only [pC, optC, inst, instL]
        have : inst R false y :: instL R false ys = cel b := by
          rw [← cel_bys R false b, ← hb]; simp only [instL]
        rw [this]
      · simp only [List.map_cons, h2]
        simp only [toP, Option.map_some]
        rw [hb, cel_bys]
      · simp only [lastOf, lastC, h3]
        cases lastC at_ pc with
        | some o => simp
        | none =>
          simp only [Option.map_none]
          split
          · simp [hb]
          · simp
    · simp at hx
theorem blk_pad (b : List Int) : (b ++ List.replicate 64 0).take 64 = blk b := by
  unfold blk spliceI
  rcases Nat.lt_or_ge b.length 64 with h | h
  · rw [Nat.min_eq_left (by omega), List.take_of_length_le (Nat.le_refl _), List.take_append, List.take_of_length_le (by omega), List.take_replicate, List.take_zero, List.nil_append, Nat.zero_add, List.drop_replicate, Nat.min_eq_left (by omega)]
  · rw [Nat.min_eq_right h, List.take_append_of_le_length h, List.take_zero, List.nil_append, Nat.zero_add, List.length_take, Nat.min_eq_left h, List.drop_replicate]
    simp
theorem pad_isl (b : List Int) : pad64 (.isl 1 (bys b)) = .isl 1 (bys (blk b)) := by
  rw [← blk_pad]
  simp [pad64, bys]
theorem pad_nils : pad64 .nils = .isl 1 (bys (blk [])) := by
  rw [← blk_pad]
  simp [pad64, bys]
theorem map_told (R : Inst) : ∀ (es : List (Int × AV)), (∀ p ∈ es, ∃ b, p.2 = .sl 1 (cel b)) → ∃ ec, es = mC ec
  | [], _ => ⟨[], rfl⟩
  | p :: es, h => by
    obtain ⟨ec, rfl⟩ := map_told R es (fun q hq => h q (List.mem_cons_of_mem _ hq))
    obtain ⟨b, hb⟩ := h p List.mem_cons_self
    refine ⟨(p.1, b) :: ec, ?_⟩
    obtain ⟨k, u⟩ := p
    simp only at hb
    subst hb
    rfl
theorem cel_inj : ∀ {a b : List Int}, cel a = cel b → a = b
  | [], [], _ => rfl
  | [], _ :: _, h => by simp [cel] at h
  | _ :: _, [], h => by simp [cel] at h
  | x :: a, y :: b, h => by
    simp only [cel, List.map_cons, List.cons.injEq] at h
    obtain ⟨h1, h2⟩ := h
    injection h1 with h1
    injection h1 with _ h1
    rw [h1, cel_inj (show cel a = cel b from h2)]
theorem kget_told {R : Inst} {ks : List Int} {vs : List LV} {ec : List (Int × List Int)} (hm : MapOk R (ks.zip vs) (mC ec)) (hv : vs.all okBs = true) (n : Int) : kget (ks.zip vs) n = (pget ec n).map fun b => LV.isl 1 (bys b) := by
  have h1 := hm.get n
  have h2 : Eng.mget (mC ec) n = (pget ec n).map (fun b => .sl 1 (cel b)) := mget_gmap _ _ _
  rw [h2] at h1
  cases hp : pget ec n with
  | none =>
    rw [hp] at h1
    cases hk : kget (ks.zip vs) n with
    | none => rfl
    | some x => rw [hk] at h1; simp at h1
  | some b =>
    rw [hp] at h1
    cases hk : kget (ks.zip vs) n with
    | none => rw [hk] at h1; simp at h1
    | some x =>
      rw [hk] at h1
      have hx : x ∈ vs := by
        have hmem : n ∈ (ks.zip vs).map (·.1) := by
          apply Classical.byContradiction
          intro hc
          rw [kget_none hc] at hk; simp at hk
        obtain ⟨y, hy1, hy2⟩ := kget_some hmem
        rw [hk] at hy1
        injection hy1 with hy1
        subst hy1
        exact (List.of_mem_zip hy2).2
      have ho := List.all_eq_true.1 hv x hx
      unfold okBs at ho
      split at ho
      · rename_i xs
        obtain ⟨b', rfl⟩ := u8s ho
        have : cel b = cel b' := by simpa [inst, cel_bys] using h1
        rw [cel_inj this]; rfl
      · simp at ho
theorem lm_read {as_ : List LV} {st st' : St} {v : LV} (h : xRead as_ st = some (v, st')) : LMeets Tryd.prog 18 as_ st v st' := by
  unfold xRead at h
  split at h
  case h_2 => simp at h
  rename_i b at_
  split at h
  case h_2 => simp at h
  rename_i e r ks vs el n ps hl
  split at h
  case isFalse => simp at h
  rename_i hc
  obtain ⟨he, hel, hn, hok, hlen, hvs⟩ := hc
  subst hel; subst hn
  intro R s hs hr
  obtain ⟨t1, t2, hob, _, hperm, _⟩ := hs.ents.focus hl
  obtain ⟨q, es, u3, s3, rfl, hm, h3⟩ := disk_lies hob
  have hb := disk_bor (b := b) (e := e) (r := r) (es := es) (q := q) hok h3
  have harg : ∀ I w xs, Rel I ((R.ρ b, .cells e [.v (.int .i64 r), .v (.map (some q)), u3] 3) :: (q, .imap .i64 es) :: s3) w → RVs I xs (instL R true [.ptr b 0, .int .i64 at_]) →
      RVs (I.with ((R.ρ b, .cells e [.v (.int .i64 r), .v (.map (some q)), u3] 3) :: (q, .imap .i64 es) :: s3) w) xs [.rp (.agg [.v (.int .i64 r), .mp .i64 es, .sl 2 ((ps.map (toP R)).map pAV)]), .v (.int .i64 at_)] := by
    intro I w xs hrel ha
    have ha' : RVs I xs (.v (.pointer (some ⟨R.ρ b, 0, none⟩)) :: [.v (.int .i64 at_)]) := by simpa [instL, inst] using ha
    exact rvs_box (vs := [.v (.int .i64 r), .mp .i64 es, .sl 2 ((ps.map (toP R)).map pAV)]) List.mem_cons_self (us := [.v (.int .i64 r), .v (.map (some q)), u3]) (by simp) hb hrel ha'
  split at h
  · -- out of range
    rename_i hat
    simp only [Option.some.injEq, Prod.mk.injEq] at h
    obtain ⟨rfl, rfl⟩ := h
    refine Meets.use _ t2 hperm.symm ?_
    refine Meets.borrow2 harg ((read_err r at_ hat _ _ rfl).mono ?_)
    rintro rr t rfl
    refine ⟨[], by simp, by simp [Hp.keys], rfl, by simp, ?_⟩
    refine ⟨R, s, Agree.refl _ _, Nat.le_refl _, ?_, ?_, HpWk.perm hperm.symm, hs⟩
    · simp only [inst, instL, mkIfc]
      exact Wk.refl _
    · simp [refs, refsL]
  · rename_i hat
    have hat2 : 0 ≤ at_ ∧ at_ ≤ 1073741824 := by omega
    obtain ⟨pc, hp1, hp2, hp3⟩ := pend_told R at_ hok
    obtain ⟨ec, rfl⟩ := map_told R es (fun p hp => by
      have := hm.perm.mem_iff.1 hp
      obtain ⟨y, hy, rfl⟩ := List.mem_map.1 this
      have hyv := (List.of_mem_zip (show (y.1, y.2) ∈ ks.zip vs from hy)).2
      have ho := List.all_eq_true.1 hvs _ hyv
      unfold okBs at ho
      split at ho
      · rename_i xs hxs
        obtain ⟨b', rfl⟩ := u8s ho
        refine ⟨b', ?_⟩
        simp only [hxs, inst, cel_bys]
      · simp at ho)
    have hpc : (ps.map (toP R)).map pAV = pc.map pC := by
      rw [hp2, List.map_map]
      apply List.map_congr_left
      rintro ⟨a, o⟩ _
      cases o <;> rfl
    have hkt := kget_told hm hvs at_
    -- what is read
    have hres : v = .tup [.isl 1 (bys (readC at_ ec pc)), .nili] ∧ st' = st := by
      rw [hp3, hkt] at h
      unfold readC
      cases hlc : lastC at_ pc with
      | some o =>
        rw [hlc] at h
        cases o with
        | some b' =>
          simp only [Option.map_some, pad_isl, Option.some.injEq, Prod.mk.injEq] at h
          exact ⟨h.1.symm, h.2.symm⟩
        | none =>
          simp only [Option.map_some, pad_nils, Option.some.injEq, Prod.mk.injEq] at h
          exact ⟨h.1.symm, h.2.symm⟩
      | none =>
        rw [hlc] at h
        simp only [Option.map_none] at h
        cases hpg : pget ec at_ with
        | some b' =>
          rw [hpg] at h
          simp only [Option.map_some, pad_isl, Option.some.injEq, Prod.mk.injEq] at h
          exact ⟨h.1.symm, h.2.symm⟩
        | none =>
          rw [hpg] at h
          simp only [Option.map_none, pad_nils, Option.some.injEq, Prod.mk.injEq] at h
          exact ⟨h.1.symm, h.2.symm⟩
    obtain ⟨rfl, rfl⟩ := hres
    refine Meets.froz ?_
    refine Meets.use _ t2 hperm.symm ?_
    rw [hpc] at harg
    have hpl : pc.length ≤ 1048576 := by
      have := congrArg List.length hp1
      rw [instL_eq, List.length_map, List.length_map] at this
      omega
    refine Meets.borrow2 harg ((read_av r at_ hat2 ec pc hpl).mono ?_)
    rintro rr t ⟨q', cap, t', h64, hmx, rfl, rfl, hsub⟩
    refine ⟨[(q', .cells 5 (cel (readC at_ ec pc)) (cap * 1))], fun p hp => hsub.subset hp, fun _ => by simp [Hp.keys], rfl, ?_, ?_⟩
    · intro p hp
      simp only [List.mem_singleton] at hp
      subst hp
      simp only [AObj.plain, List.all_eq_true]
      intro x hx
      unfold cel at hx
      obtain ⟨y, _, rfl⟩ := List.mem_map.1 hx
      rfl
    · intro hn
      have hlenr : (readC at_ ec pc).length = 64 := by
        unfold readC
        split <;> exact blk_length _
      have hkn : q' ∉ Hp.keys (((R.ρ b, AObj.cells e [.v (.int .i64 r), .v (.map (some q)), u3] 3) :: (q, .imap .i64 (mC ec)) :: s3) ++ t2) := (List.nodup_cons.1 hn).1
      refine ⟨[(q', .cells 5 (cel (readC at_ ec pc)) (cap * 1))], .tup [.sl 1 (cel (readC at_ ec pc)), .v .nilIface], _, fun p hp => by
        simp only [List.mem_singleton] at hp; subst hp; simp, ?_, .drop _ (.rest (fun k hk => by
          simp only [Hp.keys, List.map_cons, List.map_nil, List.mem_singleton]
          intro e; subst e; exact hkn hk)), ?_⟩
      · refine BorL.tup (.cons ?_ (.refl _ _))
        refine .row q' 0 64 cap 1 (cap * 1) 5 (cel (readC at_ ec pc)) (cel (readC at_ ec pc)) (by simp) ?_ h64 (by unfold big; omega) ?_ ?_
        · unfold cel; rw [List.length_map, hlenr]
        · intro i x hx
          unfold cel at hx
          rw [List.getElem?_map] at hx
          obtain ⟨y, _, rfl⟩ := Option.map_eq_some_iff.1 hx
          rfl
        · rw [cel_flat, List.drop_zero, List.take_of_length_le]
          unfold cel; rw [List.length_map, hlenr]; omega
      · refine ⟨R, s, Agree.refl _ _, Nat.le_refl _, ?_, by simp [refs, refsL], HpWk.perm hperm.symm, hs⟩
        simp only [inst, instL, cel_bys]
        exact Wk.refl _
end Go.Mac

namespace Go.Mac
open Go Go.Eng Go.Proofs
theorem extC0 : ExtSound Tryd.prog C0 := by
  intro f F h as_ st v st' hF
  simp only [C0] at h
  split at h
  · rename_i hf; subst hf; injection h with h; subst h; exact lm_mclone hF
  split at h
  · rename_i hf; subst hf; injection h with h; subst h; exact lm_needs hF
  split at h
  · rename_i hf; subst hf; injection h with h; subst h; exact lm_is hF
  split at h
  · rename_i hf; subst hf; injection h with h; subst h; exact lm_read hF
  split at h
  · rename_i hf; subst hf; injection h with h; subst h; exact lm_sorted hF
  split at h
  · rename_i hf; subst hf; injection h with h; subst h; exact lm_as hF
  · simp at h
end Go.Mac

namespace Go.Mac
open Go Go.Eng Go.Proofs Go.Proofs.YtddbfjgodbfaoaaDoor
set_option linter.unusedVariables false
theorem map_of {α : Type} {f : α → LV} {G : LV → Prop} (hG : ∀ x, G x → ∃ n, x = f n) : ∀ {xs : List LV}, (∀ x ∈ xs, G x) → ∃ l : List α, xs = l.map f
  | [], _ => ⟨[], rfl⟩
  | x :: xs, h => by
    obtain ⟨n, hn⟩ := hG x (h x (by simp))
    obtain ⟨l, hl⟩ := map_of hG (xs := xs) fun y hy => h y (by simp [hy])
    exact ⟨n :: l, by rw [hn, hl]; rfl⟩
def isBys (v : LV) : Prop := ∃ b : List Int, v = .isl 1 (bys b)
def isInts (v : LV) : Prop := ∃ b : List Int, v = .isl 1 (ints b)
theorem Rd.mono {H : Type} {enc : TypeId × Value → H} {P : Program} {R : Inst} {w : World} {t : TypeId} {G G' : LV → Prop} (h : Rd enc P R w t G) (hG : ∀ v, G v → G' v) : Rd enc P R w t G' := by
  intro base sp hd fuel cs x h1 h2
  obtain ⟨v, g, r⟩ := h base sp hd fuel cs x h1 h2
  exact ⟨v, hG v g, r⟩
section
variable {H : Type} {enc : TypeId × Value → H} {P : Program} {R : Inst} {w : World}
theorem Rd.bys {t e : TypeId} (ht : P.underlying t = some (.slice e)) (he : P.underlying e = some (.int .u8)) (hk : P.cellsOf e = 1) (hb : 0 < P.bytesOf e) : Rd enc P R w t isBys :=
  (Rd.slice ht hk (by omega) hb (Rd.int he) (by rintro v ⟨n, rfl, _⟩; rfl)).mono (by
    rintro v ⟨xs, rfl, h, _⟩
    obtain ⟨l, rfl⟩ := map_of (f := LV.int .u8) (by rintro x ⟨n, rfl, _⟩; exact ⟨n, rfl⟩) h
    exact ⟨l, rfl⟩)
theorem Rd.ints {t e : TypeId} (ht : P.underlying t = some (.slice e)) (he : P.underlying e = some (.int .i64)) (hk : P.cellsOf e = 1) (hb : 0 < P.bytesOf e) : Rd enc P R w t isInts :=
  (Rd.slice ht hk (by omega) hb (Rd.int he) (by rintro v ⟨n, rfl, _⟩; rfl)).mono (by
    rintro v ⟨xs, rfl, h, _⟩
    obtain ⟨l, rfl⟩ := map_of (f := LV.int .i64) (by rintro x ⟨n, rfl, _⟩; exact ⟨n, rfl⟩) h
    exact ⟨l, rfl⟩)
end
theorem own_seat : ownKnob Tryd.prog.godebug = none := by kernel_rfl
theorem laid_seat : laidOutB Tryd.prog = true := by kernel_rfl
theorem mixed_seat : Tryd.prog.follows .mixedOrders = true := by kernel_rfl
def isInt (k : IntKind) (v : LV) : Prop := ∃ n, v = .int k n
theorem Rd.i {H : Type} {enc : TypeId × Value → H} {P : Program} {R : Inst} {w : World} {t : TypeId} {k : IntKind} (ht : P.underlying t = some (.int k)) : Rd enc P R w t (isInt k) := (Rd.int ht).mono (by rintro v ⟨n, rfl, _⟩; exact ⟨n, rfl⟩)
end Go.Mac

namespace Go.Mac
open Go Go.Eng Go.Proofs Go.Proofs.YtddbfjgodbfaoaaDoor Go.ChangeShapes Go.WideShapes Go.RowKit
set_option linter.unusedVariables false
set_option maxRecDepth 100000
theorem et_seat : Tryd.prog.globalNamed "errors.errorType" = some 0 := by kernel_rfl
theorem rt_seat : (Tryd.prog.cutTypes.find? (·.1 == "internal/reflectlite.rtype")).map (·.2) = some 111 := by kernel_rfl
theorem row_seat : ((List.range 189).filter fun t => Tryd.prog.rowNamed t [101, 114, 114, 111, 114]) = [27] := by kernel_rfl
theorem size_seat : Tryd.prog.types.size = 189 := by kernel_rfl
abbrev laidL : List (String × DataW Unit) := [("errors.errorType", Rows.laid_errors_errorType)]
theorem gnd_of_laid {W : World} (h : laidMetH Tryd.prog laidL W) : Gnd (heapI W) := by
  have h' : laidMet Tryd.prog [] W ∧ handlesMet Tryd.prog laidL W := h
  obtain ⟨name, u, ty, e1, e2, e3, e4, e5⟩ := h'.2 _ (List.mem_singleton.2 rfl)
  have en : name = [101, 114, 114, 111, 114] := (Option.some.inj e1).symm
  subst en
  obtain rfl := Option.some.inj (rt_seat.symm.trans e2)
  have hm : ty ∈ (List.range 189).filter fun t => Tryd.prog.rowNamed t [101, 114, 114, 111, 114] := List.mem_filter.2 ⟨List.mem_range.2 (by rw [← size_seat]; exact e3), e4⟩
  rw [row_seat] at hm
  obtain rfl := List.mem_singleton.1 hm
  have hh : typeHandle Tryd.prog 27 = .pointer (some ⟨1, 27, none⟩) := by kernel_rfl
  rw [hh] at e5
  have hc : W.cell? ⟨0, 0, none⟩ = some (.iface 111 (.agg #[.pointer (some ⟨1, 27, none⟩)])) := by simpa using World.var?_cell et_seat e5 0
  intro a x hx
  obtain ⟨rfl, rfl⟩ := Prod.mk.inj (List.mem_singleton.1 hx)
  exact (heapI_cell hc).2
noncomputable def laidWorld (os : Os) : World :=
  let w0 := World.holding Tryd.prog os ⟨#[], #[], []⟩
  { w0 with heap := w0.heap.modify 0 fun
      | .cells _ t frozen => .cells #[.iface 111 (.agg #[.pointer (some ⟨1, 27, none⟩)])] t frozen
      | o => o }
theorem laidWorld_met (os : Os) (args : Array Value) : laidMetH Tryd.prog laidL ((laidWorld os).forCall (fun _ _ => 0) ⟨#[], args, []⟩).memory :=
  laidMetH_of_parts (laidMet_nil _ _) (by kernel_rfl)
def isOps5 (v : LV) : Prop := ∃ l, v = .isl 5 (ops5 l)
def isU8v (v : LV) : Prop := ∃ n, v = .int .u8 n ∧ (Lit.int .u8 n).wf = true
theorem u8_wf {n : Int} (h : (Lit.int .u8 n).wf = true) : 0 ≤ n ∧ n ≤ 255 := by
  have e3 : IntKind.u8.min = 0 := rfl
  have e4 : IntKind.u8.max = 255 := rfl
  simp only [Lit.wf, Bool.and_eq_true, decide_eq_true_eq] at h
  omega
theorem rd_op5 {H : Type} (enc : TypeId × Value → H) (W : World) : Rd enc Tryd.prog R0 W 41 (fun v => ∃ x, v = op5 x) := by
  have I := Rd.i (enc := enc) (P := Tryd.prog) (R := R0) (w := W) (t := 3) (k := .i64) (by kernel_rfl)
  have B := Rd.bys (enc := enc) (P := Tryd.prog) (R := R0) (w := W) (t := 38) (e := 5) (by kernel_rfl) (by kernel_rfl) (by kernel_rfl) (Nat.le_of_ble_eq_true (by kernel_rfl))
  have N := Rd.ints (enc := enc) (P := Tryd.prog) (R := R0) (w := W) (t := 39) (e := 3) (by kernel_rfl) (by kernel_rfl) (by kernel_rfl) (Nat.le_of_ble_eq_true (by kernel_rfl))
  have hI : ∀ v, isInt .i64 v → lcells v = [v] := by rintro v ⟨n, rfl⟩; rfl
  have hB : ∀ v, isBys v → lcells v = [v] := by rintro v ⟨n, rfl⟩; rfl
  have hN : ∀ v, isInts v → lcells v = [v] := by rintro v ⟨n, rfl⟩; rfl
  refine (Rd.struct1 (Gs := [isInt .i64, isInt .i64, isBys, isInts, isInt .i64]) Tryd.underlying41 (by kernel_rfl) rfl ?_).mono ?_
  · intro i f G hf hG
    match i, hf, hG with
    | 0, hf, hG => cases hf; cases hG; exact ⟨rfl, by kernel_rfl, I, hI⟩
    | 1, hf, hG => cases hf; cases hG; exact ⟨rfl, by kernel_rfl, I, hI⟩
    | 2, hf, hG => cases hf; cases hG; exact ⟨rfl, by kernel_rfl, B, hB⟩
    | 3, hf, hG => cases hf; cases hG; exact ⟨rfl, by kernel_rfl, N, hN⟩
    | 4, hf, hG => cases hf; cases hG; exact ⟨rfl, by kernel_rfl, I, hI⟩
    | i + 5, hf, hG => simp at hG
  · rintro v ⟨vs, rfl, hl, h⟩
    have hl : vs.length = 5 := hl
    match vs, hl with
    | [a, a2, b, c, d], _ =>
      obtain ⟨k, rfl⟩ := h 0 a _ rfl rfl
      obtain ⟨q, rfl⟩ := h 1 a2 _ rfl rfl
      obtain ⟨b, rfl⟩ := h 2 b _ rfl rfl
      obtain ⟨s, rfl⟩ := h 3 c _ rfl rfl
      obtain ⟨u, rfl⟩ := h 4 d _ rfl rfl
      exact ⟨⟨k, q, b, s, u⟩, rfl⟩
theorem rd_ops5 {H : Type} (enc : TypeId × Value → H) (W : World) : Rd enc Tryd.prog R0 W 22 isOps5 := by
  refine (Rd.slice (e := 41) (k := 5) (by kernel_rfl) (by kernel_rfl) (by omega) (Nat.le_of_ble_eq_true (by kernel_rfl)) (rd_op5 enc W) (by rintro v ⟨b, rfl⟩; rfl)).mono ?_
  rintro v ⟨xs, rfl, h, _⟩
  obtain ⟨l, rfl⟩ := map_of (f := op5) (fun x h => h) h
  exact ⟨l, rfl⟩
end Go.Mac

namespace Go.Mac
open Go Go.Eng Go.Proofs Go.Proofs.YtddbfjgodbfaoaaDoor 
set_option linter.unusedVariables false
set_option maxRecDepth 100000
theorem keeps_lcall (rm cut at_ : Int) (l : List Act5) (ks : List Int) (h0 : 0 ≤ rm) (h1 : rm ≤ 255) :
    lcall Tryd.prog C0 601 4 [.int .u8 rm, .isl 5 (ops5 l), .isl 1 (ints ks), .int .i64 cut, .int .i64 at_] ⟨0, []⟩ = some (.bool true, ⟨0, []⟩) := by
  have h := keeps_ok rm cut at_ l ks h0 h1
  have hr : refsL [LV.int .u8 rm, .isl 5 (ops5 l), .isl 1 (ints ks), .int .i64 cut, .int .i64 at_] = [] := rfl
  have e : renL (fun b => ixOf [] b 0) [LV.int .u8 rm, .isl 5 (ops5 l), .isl 1 (ints ks), .int .i64 cut, .int .i64 at_] = [LV.int .u8 rm, .isl 5 (ops5 l), .isl 1 (ints ks), .int .i64 cut, .int .i64 at_] := rfl
  rw [← e] at h
  exact lcall_nil hr h
theorem keeps_params {H : Type} (enc : TypeId × Value → H) (W : World) : Params enc Tryd.prog R0 W Tryd.f4.params.toList [isU8v, isOps5, isInts, isInt .i64, isInt .i64] := by
  rw [Tryd.params4]
  exact ⟨⟨ok1_int (k := .u8) (by kernel_rfl), Rd.int (by kernel_rfl), by rintro u ⟨l, rfl, _⟩; rfl⟩, ⟨ok1_slice (e := 41) (by kernel_rfl), rd_ops5 enc W, by rintro u ⟨l, rfl⟩; rfl⟩,
    ⟨ok1_slice (e := 3) (by kernel_rfl), Rd.ints (e := 3) (by kernel_rfl) (by kernel_rfl) (by kernel_rfl) (Nat.le_of_ble_eq_true (by kernel_rfl)), by rintro u ⟨l, rfl⟩; rfl⟩,
    ⟨ok1_int (k := .i64) (by kernel_rfl), Rd.i (by kernel_rfl), by rintro u ⟨l, rfl⟩; rfl⟩, ⟨ok1_int (k := .i64) (by kernel_rfl), Rd.i (by kernel_rfl), by rintro u ⟨l, rfl⟩; rfl⟩, trivial⟩
theorem enterKeeps (vs : Array Value) (W : World) : (callFunc 4 vs).run Tryd.prog W = .ok (.enter 4 vs) W := by kernel_rfl
theorem keeps_lifted (os : Os) (started : os.Started) (H : Type) (enc : TypeId × Value → H) :
    ReturnsInHanded {} Tryd.checked os 4 .any (fun w args => (Rows.blockKeepsSpec.pre enc Tryd.prog Tryd.f4 Rows.blockKeepsRow.domain false w args ∧ laidMetH Tryd.prog laidL w) ∧ sizedMet enc Tryd.prog Tryd.f4 (OpenSpec.ofChange Rows.blockKeepsSpec) false w args)
      (Rows.blockKeepsSpec.post enc Tryd.prog Tryd.f4 false true false false) :=
  lifted_of_lcall_laid (X := fun w _ => laidMetH Tryd.prog laidL w) (K := Tryd.checked) (C := C0) (Gs := [isU8v, isOps5, isInts, isInt .i64, isInt .i64]) (tb := 4) (fun _ _ _ hh h => h.of_heap hh) (fun _ _ h => gnd_of_laid h) started own_seat laid_seat extC0 mixed_seat (by kernel_rfl) Tryd.func4 rfl
    (by rw [Tryd.params4]; exact of_decide_eq_true (by kernel_rfl)) (by kernel_rfl) (by kernel_rfl) (fun W => keeps_params enc W)
    (fun xs h => by
      match xs, h with
      | [a, b, c, d, e], h =>
        obtain ⟨⟨n, rfl, hw⟩, ⟨k, rfl⟩, ⟨ks, rfl⟩, ⟨cut, rfl⟩, ⟨q, rfl⟩, _⟩ := h
        have q1 := u8_wf hw
        exact ⟨601, keeps_lcall n cut q k ks q1.1 q1.2, rfl⟩)
    (fun ds h => by
      have h : ds.length = 5 := h
      match ds, h with
      | [d1, d2, d3, d4, d5], _ => exact ⟨rfl, rfl, rfl⟩)
    enterKeeps
    (ChangeSpec.witness_at (enc := enc) (C := Tryd.checked) (os := os) (X := fun w _ => laidMetH Tryd.prog laidL w) false (laidWorld os) #[.int .u8 0, .slice none 0 0, .slice none 0 0, .int .i64 0, .int .i64 0] 8 rfl (by kernel_rfl) (by kernel_rfl) (by kernel_rfl) (by kernel_rfl) (by kernel_rfl) (laidWorld_met os _))
theorem keeps_over : Rows.blockKeepsRow.holds Tryd.pinned (OpenSpec.ofChange Rows.blockKeepsSpec) :=
  OpenClaim.holds_of_wide 4 Tryd.f4 rfl rfl rfl rfl rfl rfl rfl ⟨rfl, rfl, rfl, rfl, rfl⟩ rfl rfl rfl rfl rfl (by kernel_rfl) Tryd.func4 (by kernel_rfl)
    (of_decide_eq_true (by kernel_rfl)) (by unfold Func.isWrapper; first | (rw [if_pos (by decide +kernel)]; kernel_rfl) | (rw [if_neg (by decide +kernel)]; exact ⟨rfl, rfl⟩))
    (fun os started H enc _ => keeps_lifted os started H enc)
end Go.Mac
namespace Go.Proofs.YtddbfjgodbfaoaaDoor
theorem blockKeeps_holds : Rows.BlockKeepsCardSaid :=
  Claim7.holds_tied_plain_at .later [] [.handle] true (true, "c3fc81baa855257402cbc0179af60ab3c03419440fcea4c204e822c83a59097f") true
    Go.Mac.keeps_over (fun _ h => by cases h) (by kernel_rfl) (fun _ h => by cases h) blockKeeps_row_tie rfl ⟨rfl, rfl⟩ (by kernel_rfl) rfl
    (fun f fn hf hfn => by
      obtain rfl : f = 4 := Option.some.inj ((show Tryd.prog.funcNamed "castellan/castellanlaw08.BlockKeeps" = some 4 by kernel_rfl).symm.trans hf) |>.symm
      obtain rfl : fn = Tryd.f4 := (Option.some.inj (Tryd.func4.symm.trans hfn)).symm
      exact ⟨by kernel_rfl, fun j t ht => by
        rw [Tryd.params4] at ht
        have h3 : t = 5 ∨ t = 22 ∨ t = 39 ∨ t = 3 := by
          rcases j with _ | _ | _ | _ | _ | j
          · exact .inl (by simpa using ht.symm)
          · exact .inr (.inl (by simpa using ht.symm))
          · exact .inr (.inr (.inl (by simpa using ht.symm)))
          · exact .inr (.inr (.inr (by simpa using ht.symm)))
          · exact .inr (.inr (.inr (by simpa using ht.symm)))
          · simp at ht
        rcases h3 with rfl | rfl | rfl | rfl
        · exact (show Tryd.prog.wantsStandIn 5 = false by kernel_rfl)
        · exact (show Tryd.prog.wantsStandIn 22 = false by kernel_rfl)
        · exact (show Tryd.prog.wantsStandIn 39 = false by kernel_rfl)
        · exact (show Tryd.prog.wantsStandIn 3 = false by kernel_rfl)⟩)
    (by kernel_rfl)
end Go.Proofs.YtddbfjgodbfaoaaDoor
