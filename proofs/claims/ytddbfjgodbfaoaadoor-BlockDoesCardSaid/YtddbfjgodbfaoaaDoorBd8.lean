/-
 BlockDoes holds for every input: each call is answered, and the blocks are, as the reference says; the condition is the card's own.
-/
import Derived.Test.YtddbfjgodbfaoaaDoorBd5
import Derived.Test.YtddbfjgodbfaoaaDoorBd6
import Derived.Test.YtddbfjgodbfaoaaDoorBd7
import Derived.Test.YtddbfjgodbfaoaaDoorProg
import Derived.KernelRfl
set_option linter.unusedVariables false
set_option linter.unusedSimpArgs false
namespace Go.Mac
open Go Go.Eng Go.Proofs Go.Mac.Nd
open Go.IntKind (i64)
open Go.Proofs.Tryd (prog)
set_option maxHeartbeats 0
set_option maxRecDepth 100000
abbrev xcE (ks : List Int) (cut last i : Int) : LEnv := [.any, .isl 1 (ints ks), .int i64 cut, .ptr 0 0, .any, .any, .ptr 1 0, .int i64 last, .any, .ptr 2 0, .int i64 i, .any, .any, .any, .any, .any, .any, .any, .any, .any, .any, .any, .any, .any, .any, .any, .any, .any, .any, .any, .any, .any, .any, .any, .any, .any, .any, .any, .any, .any, .any, .any, .any, .any, .any, .any, .any, .any, .any, .any, .any, .any, .any, .any, .any, .any, .any, .any, .any, .any, .any, .any, .any, .any, .any, .any, .any, .any, .any, .any, .any, .any, .any, .any, .any, .any, .any, .any, .any, .any, .any, .any, .any, .any, .any, .any, .any, .any, .any, .any, .any, .any, .any, .any, .any, .any, .any]
abbrev xcX (p : PL) (ks : List Int) (cut last i : Int) : LEnv := [.any, .isl 1 (ints ks), .int i64 cut, .ptr 0 0, .any, .any, .ptr 1 0, .int i64 last, .any, .ptr 2 0, .int i64 i, .any, .any, .any, .any, .any, .any, .any, .any, .any, .any, .any, .any, .any, .any, .any, .any, .any, .any, .any, .any, .any, .int i64 i, .ptr 0 2, .isl 3 (loosR p), .int i64 ((loosR p).length : Int), .bool (decide (i < ((loosR p).length : Int))), .any, .any, .any, .any, .any, .any, .any, .any, .any, .any, .any, .any, .any, .any, .any, .any, .any, .any, .any, .any, .any, .any, .any, .any, .any, .any, .any, .any, .any, .any, .any, .any, .any, .any, .any, .any, .any, .any, .any, .any, .any, .any, .any, .any, .any, .any, .any, .any, .any, .any, .any, .any, .any, .any, .any, .any, .any, .any, .any, .any]
theorem xc_over (n fu : Nat) (rm : Int) (m : ML) (p : PL) (hp : p.length ≤ 1000) (hm : m.length ≤ 100000) (c c' : ML) (ks : List Int) (cut : Int) (last : Int) (i : Int) (h0 : 0 ≤ i) (hi : i < (p.length : Int)) (hk : (ks.length : Int) ≤ i) (hn : 300 < n) (r : LX × LEnv × St)
  (hr : loopAt prog Ck (n + 60) 31 1 0 fu (xcE ks cut last (i + 1)) (syS rm m p c) = some r) : loopAt prog Ck (n + 60) 31 1 0 (fu + 1) (xcE ks cut last i) (syS rm m p c) = some r := by
 have f1 : decide (i < ((loosR p).length : Int)) = true := by simp; omega
 have f2 := kept_oI (n + 49) ks i h0 hk
 have f3 : LV.int i64 (IntKind.wrap i64 (i + 1)) = LV.int i64 (i + 1) := by simp (disch := omega)
 have f4 := hr
 exact dlp (fun h => ai (congrArg LV.bool f1) <| ai (f2) <| ai (f3) <| ai (Eq.refl (tidyOf f4)) <| ai (f4) <| h) (.i (.s (.s (.a) (.b true (.a))) (.s (.k (.s (.s (.r [.a, .a, .f (rOf f2)]) (.a)) .a)) (.r [.a, .v (vOf f3) (.a)]))) (.h [] (eOf f4) (stOf f4) (rOf f4))) (by kernel_rfl)
theorem xc_lost (n fu : Nat) (rm : Int) (m : ML) (p : PL) (hp : p.length ≤ 1000) (hm : m.length ≤ 100000) (c c' : ML) (ks : List Int) (cut : Int) (last : Int) (i : Int) (h0 : 0 ≤ i) (hi : i < (p.length : Int)) (hk : i < (ks.length : Int)) (h : atI ks i.toNat = 0) (hn : 300 < n) (r : LX × LEnv × St)
  (hr : loopAt prog Ck (n + 60) 31 1 0 fu (xcE ks cut last (i + 1)) (syS rm m p c) = some r) : loopAt prog Ck (n + 60) 31 1 0 (fu + 1) (xcE ks cut last i) (syS rm m p c) = some r := by
 have f1 : decide (i < ((loosR p).length : Int)) = true := by simp; omega
 have f2 := kept_0I (n + 49) ks i h0 hk h
 have f3 : LV.int i64 (IntKind.wrap i64 (i + 1)) = LV.int i64 (i + 1) := by simp (disch := omega)
 have f4 := hr
 exact dlp (fun h => ai (congrArg LV.bool f1) <| ai (f2) <| ai (f3) <| ai (Eq.refl (tidyOf f4)) <| ai (f4) <| h) (.i (.s (.s (.a) (.b true (.a))) (.s (.k (.s (.s (.r [.a, .a, .f (rOf f2)]) (.a)) .a)) (.r [.a, .v (vOf f3) (.a)]))) (.h [] (eOf f4) (stOf f4) (rOf f4))) (by kernel_rfl)
theorem xc_free1 (n fu : Nat) (rm : Int) (m : ML) (p : PL) (hp : p.length ≤ 1000) (hm : m.length ≤ 100000) (c c' : ML) (ks : List Int) (cut : Int) (last : Int) (i : Int) (h0 : 0 ≤ i) (hi : i < (p.length : Int)) (hk : i < (ks.length : Int)) (h : ¬ atI ks i.toNat = 0) (hl : i < last) (a : Int) (hx : (loosR p)[i.toNat]? = some (.agg [.int .i64 a, .bool true, .nils])) (U : ∀ j, 200 < j → lrun prog Ck (lcall prog Ck (j + 40)) (j + 40) 51 [.isl 2 (cellsR c), .agg [.int .i64 a, .bool true, .nils]] ⟨0, []⟩ = some (.isl 2 (cellsR c'), ⟨0, []⟩)) (hn : 300 < n) (r : LX × LEnv × St)
  (hr : loopAt prog Ck (n + 60) 31 1 0 fu (xcE ks cut last (i + 1)) (syS rm m p c') = some r) : loopAt prog Ck (n + 60) 31 1 0 (fu + 1) (xcE ks cut last i) (syS rm m p c) = some r := by
 have f1 : decide (i < ((loosR p).length : Int)) = true := by simp; omega
 have f2 := kept_1I (n + 49) ks i h0 hk h
 have f3 : (loosR p)[i.toNat]? = some (LV.agg [.int i64 a, .bool true, .nils]) := hx
 have f4 : 0 ≤ i ∧ i < ((loosR p).length : Int) := by simp; omega
 have f5 : decide (i = last) = false := by simp; omega
 have f6 : lpick (decide (i = last)) LV.any (LV.bool false) = some (LV.bool false) := by simp; omega
 have f7 := U (n + 19) (by omega)
 have f8 : LV.int i64 (IntKind.wrap i64 (i + 1)) = LV.int i64 (i + 1) := by simp (disch := omega)
 have f9 := hr
 exact dlp (fun h => ai (congrArg LV.bool f1) <| ai (f2) <| ai (f4) <| ai (f3) <| ai (congrArg some f5) <| ai (congrArg some f5) <| ai (congrArg some f5) <| ai (x_map (st := (St.mk 4 [(3, LObj.box 82 [.int i64 a, .bool true, .nils]), (0, LObj.box 35 [.int i64 rm, .isl 2 (cellsR m), .isl 3 (loosR p)]), (1, LObj.box 35 [.int i64 0, .nils, .nils]), (2, LObj.box 35 [.int i64 rm, .isl 2 (cellsR c), .nils])])) f6) <| ai (f7) <| ai (f8) <| ai (Eq.refl (tidyOf f9)) <| ai (f9) <| h) (.i (.s (.s (.a) (.b true (.a))) (.s (.k (.s (.s (.r [.a, .a, .f (rOf f2)]) (.a)) (.s (.r [.a, .a, .a, .e (rOf f3)]) (.s (.s (.r [.a, .a, .a, .a, .g false (.a), .g false (.a), .g false (.a), .t (rOf (x_map (st := (St.mk 4 [(3, LObj.box 82 [.int i64 a, .bool true, .nils]), (0, LObj.box 35 [.int i64 rm, .isl 2 (cellsR m), .isl 3 (loosR p)]), (1, LObj.box 35 [.int i64 0, .nils, .nils]), (2, LObj.box 35 [.int i64 rm, .isl 2 (cellsR c), .nils])])) f6))]) (.a)) (.r [.a, .a, .a, .f (rOf f7)]))))) (.r [.a, .v (vOf f8) (.a)]))) (.h [] (eOf f9) (stOf f9) (rOf f9))) (by kernel_rfl)
theorem xc_free2 (n fu : Nat) (rm : Int) (m : ML) (p : PL) (hp : p.length ≤ 1000) (hm : m.length ≤ 100000) (c c' : ML) (ks : List Int) (cut : Int) (i : Int) (h0 : 0 ≤ i) (hi : i < (p.length : Int)) (hk : i < (ks.length : Int)) (h : ¬ atI ks i.toNat = 0) (a : Int) (hx : (loosR p)[i.toNat]? = some (.agg [.int .i64 a, .bool true, .nils])) (U : ∀ j, 200 < j → lrun prog Ck (lcall prog Ck (j + 40)) (j + 40) 51 [.isl 2 (cellsR c), .agg [.int .i64 a, .bool true, .nils]] ⟨0, []⟩ = some (.isl 2 (cellsR c'), ⟨0, []⟩)) (hn : 300 < n) (r : LX × LEnv × St)
  (hr : loopAt prog Ck (n + 60) 31 1 0 fu (xcE ks cut i (i + 1)) (syS rm m p c') = some r) : loopAt prog Ck (n + 60) 31 1 0 (fu + 1) (xcE ks cut i i) (syS rm m p c) = some r := by
 have f1 : decide (i < ((loosR p).length : Int)) = true := by simp; omega
 have f2 := kept_1I (n + 49) ks i h0 hk h
 have f3 : (loosR p)[i.toNat]? = some (LV.agg [.int i64 a, .bool true, .nils]) := hx
 have f4 : 0 ≤ i ∧ i < ((loosR p).length : Int) := by simp; omega
 have f5 : decide (i = i) = true := by simp
 have f6 : LV.bool (if decide (i = i) = true then false else false) = LV.bool false := by simp
 have f7 := U (n + 19) (by omega)
 have f8 : LV.int i64 (IntKind.wrap i64 (i + 1)) = LV.int i64 (i + 1) := by simp (disch := omega)
 have f9 := hr
 exact dlp (fun h => ai (congrArg LV.bool f1) <| ai (f2) <| ai (f4) <| ai (f3) <| ai (congrArg some f5) <| ai (congrArg some f5) <| ai (congrArg some f5) <| ai (f6) <| ai (f7) <| ai (f8) <| ai (Eq.refl (tidyOf f9)) <| ai (f9) <| h) (.i (.s (.s (.a) (.b true (.a))) (.s (.k (.s (.s (.r [.a, .a, .f (rOf f2)]) (.a)) (.s (.r [.a, .a, .a, .e (rOf f3)]) (.s (.s (.r [.a, .a, .a, .a, .g true (.a), .g true (.a), .g true (.a), .v (vOf f6) (.a)]) (.a)) (.r [.a, .a, .a, .f (rOf f7)]))))) (.r [.a, .v (vOf f8) (.a)]))) (.h [] (eOf f9) (stOf f9) (rOf f9))) (by kernel_rfl)
theorem xc_put1 (n fu : Nat) (rm : Int) (m : ML) (p : PL) (hp : p.length ≤ 1000) (hm : m.length ≤ 100000) (c c' : ML) (ks : List Int) (cut : Int) (last : Int) (i : Int) (h0 : 0 ≤ i) (hi : i < (p.length : Int)) (hk : i < (ks.length : Int)) (h : ¬ atI ks i.toNat = 0) (hl : i < last) (a : Int) (b : List Int) (hx : (loosR p)[i.toNat]? = some (.agg [.int .i64 a, .bool false, .isl 1 (bys b)])) (U : ∀ j, 200 < j → lrun prog Ck (lcall prog Ck (j + 40)) (j + 40) 51 [.isl 2 (cellsR c), .agg [.int .i64 a, .bool false, .isl 1 (bys b)]] ⟨0, []⟩ = some (.isl 2 (cellsR c'), ⟨0, []⟩)) (hn : 300 < n) (r : LX × LEnv × St)
  (hr : loopAt prog Ck (n + 60) 31 1 0 fu (xcE ks cut last (i + 1)) (syS rm m p c') = some r) : loopAt prog Ck (n + 60) 31 1 0 (fu + 1) (xcE ks cut last i) (syS rm m p c) = some r := by
 have f1 : decide (i < ((loosR p).length : Int)) = true := by simp; omega
 have f2 := kept_1I (n + 49) ks i h0 hk h
 have f3 : (loosR p)[i.toNat]? = some (LV.agg [.int i64 a, .bool false, .isl 1 (bys b)]) := hx
 have f4 : 0 ≤ i ∧ i < ((loosR p).length : Int) := by simp; omega
 have f5 : decide (i = last) = false := by simp; omega
 have f6 : lpick (decide (i = last)) LV.any (LV.bool false) = some (LV.bool false) := by simp; omega
 have f7 := U (n + 19) (by omega)
 have f8 : LV.int i64 (IntKind.wrap i64 (i + 1)) = LV.int i64 (i + 1) := by simp (disch := omega)
 have f9 := hr
 exact dlp (fun h => ai (congrArg LV.bool f1) <| ai (f2) <| ai (f4) <| ai (f3) <| ai (congrArg some f5) <| ai (congrArg some f5) <| ai (congrArg some f5) <| ai (x_map (st := (St.mk 4 [(3, LObj.box 82 [.int i64 a, .bool false, .isl 1 (bys b)]), (0, LObj.box 35 [.int i64 rm, .isl 2 (cellsR m), .isl 3 (loosR p)]), (1, LObj.box 35 [.int i64 0, .nils, .nils]), (2, LObj.box 35 [.int i64 rm, .isl 2 (cellsR c), .nils])])) f6) <| ai (f7) <| ai (f8) <| ai (Eq.refl (tidyOf f9)) <| ai (f9) <| h) (.i (.s (.s (.a) (.b true (.a))) (.s (.k (.s (.s (.r [.a, .a, .f (rOf f2)]) (.a)) (.s (.r [.a, .a, .a, .e (rOf f3)]) (.s (.s (.r [.a, .a, .a, .a, .g false (.a), .g false (.a), .g false (.a), .t (rOf (x_map (st := (St.mk 4 [(3, LObj.box 82 [.int i64 a, .bool false, .isl 1 (bys b)]), (0, LObj.box 35 [.int i64 rm, .isl 2 (cellsR m), .isl 3 (loosR p)]), (1, LObj.box 35 [.int i64 0, .nils, .nils]), (2, LObj.box 35 [.int i64 rm, .isl 2 (cellsR c), .nils])])) f6))]) (.a)) (.r [.a, .a, .a, .f (rOf f7)]))))) (.r [.a, .v (vOf f8) (.a)]))) (.h [] (eOf f9) (stOf f9) (rOf f9))) (by kernel_rfl)
theorem xc_put2 (n fu : Nat) (rm : Int) (m : ML) (p : PL) (hp : p.length ≤ 1000) (hm : m.length ≤ 100000) (c c' : ML) (ks : List Int) (cut : Int) (i : Int) (h0 : 0 ≤ i) (hi : i < (p.length : Int)) (hk : i < (ks.length : Int)) (h : ¬ atI ks i.toNat = 0) (hc : cut < 0) (a : Int) (b : List Int) (hx : (loosR p)[i.toNat]? = some (.agg [.int .i64 a, .bool false, .isl 1 (bys b)])) (U : ∀ j, 200 < j → lrun prog Ck (lcall prog Ck (j + 40)) (j + 40) 51 [.isl 2 (cellsR c), .agg [.int .i64 a, .bool false, .isl 1 (bys b)]] ⟨0, []⟩ = some (.isl 2 (cellsR c'), ⟨0, []⟩)) (hn : 300 < n) (r : LX × LEnv × St)
  (hr : loopAt prog Ck (n + 60) 31 1 0 fu (xcE ks cut i (i + 1)) (syS rm m p c') = some r) : loopAt prog Ck (n + 60) 31 1 0 (fu + 1) (xcE ks cut i i) (syS rm m p c) = some r := by
 have f1 : decide (i < ((loosR p).length : Int)) = true := by simp; omega
 have f2 := kept_1I (n + 49) ks i h0 hk h
 have f3 : (loosR p)[i.toNat]? = some (LV.agg [.int i64 a, .bool false, .isl 1 (bys b)]) := hx
 have f4 : 0 ≤ i ∧ i < ((loosR p).length : Int) := by simp; omega
 have f5 : decide (i = i) = true := by simp
 have f6 : LV.bool (if decide (i = i) = true then true else false) = LV.bool true := by simp
 have f7 : LV.bool (if true = true then decide (0 ≤ cut) else false) = LV.bool false := by simp; omega
 have f8 := U (n + 19) (by omega)
 have f9 : LV.int i64 (IntKind.wrap i64 (i + 1)) = LV.int i64 (i + 1) := by simp (disch := omega)
 have f10 := hr
 exact dlp (fun h => ai (congrArg LV.bool f1) <| ai (f2) <| ai (f4) <| ai (f3) <| ai (congrArg some f5) <| ai (congrArg some f5) <| ai (congrArg some f5) <| ai (f6) <| ai (f7) <| ai (f8) <| ai (f9) <| ai (Eq.refl (tidyOf f10)) <| ai (f10) <| h) (.i (.s (.s (.a) (.b true (.a))) (.s (.k (.s (.s (.r [.a, .a, .f (rOf f2)]) (.a)) (.s (.r [.a, .a, .a, .e (rOf f3)]) (.s (.s (.r [.a, .a, .a, .a, .g true (.a), .g true (.a), .g true (.a), .v (vOf f6) (.a), .a, .a, .a, .v (vOf f7) (.a)]) (.a)) (.r [.a, .a, .a, .f (rOf f8)]))))) (.r [.a, .v (vOf f9) (.a)]))) (.h [] (eOf f10) (stOf f10) (rOf f10))) (by kernel_rfl)
theorem xc_put3 (n fu : Nat) (rm : Int) (m : ML) (p : PL) (hp : p.length ≤ 1000) (hm : m.length ≤ 100000) (c c' : ML) (ks : List Int) (cut : Int) (i : Int) (h0 : 0 ≤ i) (hi : i < (p.length : Int)) (hk : i < (ks.length : Int)) (h : ¬ atI ks i.toNat = 0) (hc : 64 ≤ cut) (a : Int) (b : List Int) (hx : (loosR p)[i.toNat]? = some (.agg [.int .i64 a, .bool false, .isl 1 (bys b)])) (U : ∀ j, 200 < j → lrun prog Ck (lcall prog Ck (j + 40)) (j + 40) 51 [.isl 2 (cellsR c), .agg [.int .i64 a, .bool false, .isl 1 (bys b)]] ⟨0, []⟩ = some (.isl 2 (cellsR c'), ⟨0, []⟩)) (hn : 300 < n) (r : LX × LEnv × St)
  (hr : loopAt prog Ck (n + 60) 31 1 0 fu (xcE ks cut i (i + 1)) (syS rm m p c') = some r) : loopAt prog Ck (n + 60) 31 1 0 (fu + 1) (xcE ks cut i i) (syS rm m p c) = some r := by
 have f1 : decide (i < ((loosR p).length : Int)) = true := by simp; omega
 have f2 := kept_1I (n + 49) ks i h0 hk h
 have f3 : (loosR p)[i.toNat]? = some (LV.agg [.int i64 a, .bool false, .isl 1 (bys b)]) := hx
 have f4 : 0 ≤ i ∧ i < ((loosR p).length : Int) := by simp; omega
 have f5 : decide (i = i) = true := by simp
 have f6 : LV.bool (if decide (i = i) = true then true else false) = LV.bool true := by simp
 have f7 : LV.bool (if true = true then decide (0 ≤ cut) else false) = LV.bool true := by simp; omega
 have f8 : LV.bool (if true = true then decide (cut < 64) else false) = LV.bool false := by simp; omega
 have f9 := U (n + 19) (by omega)
 have f10 : LV.int i64 (IntKind.wrap i64 (i + 1)) = LV.int i64 (i + 1) := by simp (disch := omega)
 have f11 := hr
 exact dlp (fun h => ai (congrArg LV.bool f1) <| ai (f2) <| ai (f4) <| ai (f3) <| ai (congrArg some f5) <| ai (congrArg some f5) <| ai (congrArg some f5) <| ai (f6) <| ai (f7) <| ai (f8) <| ai (f9) <| ai (f10) <| ai (Eq.refl (tidyOf f11)) <| ai (f11) <| h) (.i (.s (.s (.a) (.b true (.a))) (.s (.k (.s (.s (.r [.a, .a, .f (rOf f2)]) (.a)) (.s (.r [.a, .a, .a, .e (rOf f3)]) (.s (.s (.r [.a, .a, .a, .a, .g true (.a), .g true (.a), .g true (.a), .v (vOf f6) (.a), .a, .a, .a, .v (vOf f7) (.a), .a, .a, .a, .v (vOf f8) (.a)]) (.a)) (.r [.a, .a, .a, .f (rOf f9)]))))) (.r [.a, .v (vOf f10) (.a)]))) (.h [] (eOf f11) (stOf f11) (rOf f11))) (by kernel_rfl)
theorem xc_end (n fu : Nat) (rm : Int) (m : ML) (p : PL) (hp : p.length ≤ 1000) (hm : m.length ≤ 100000) (c : ML) (ks : List Int) (cut last i : Int) (hi : (p.length : Int) ≤ i) :
  loopAt prog Ck (n + 60) 31 1 0 (fu + 1) (xcE ks cut last i) (syS rm m p c) = some (.exit 2, xcX p ks cut last i, syS rm m p c) := by
 have f1 : decide (i < ((loosR p).length : Int)) = false := by simp; omega
 exact dlp (fun h => ai (congrArg LV.bool f1) <| h) (.i (.s (.s (.a) (.b false (.a))) .a) (.a)) (by kernel_rfl)
end Go.Mac
namespace Go.Mac
open Go Go.Eng Go.Proofs Go.Mac.Nd
open Go.IntKind (i64)
open Go.Proofs.Tryd (prog)
set_option maxHeartbeats 0
set_option maxRecDepth 100000
def tnL (b o : List Int) (k : Nat) : List Int := b.take k ++ o.drop k
theorem tnL_len (b o : List Int) (k : Nat) (hb : b.length = 64) (ho : o.length = 64) (hk : k ≤ 64) : (tnL b o k).length = 64 := by
 unfold tnL
 rw [List.length_append, List.length_take, List.length_drop]; omega
theorem tnL_set (b o : List Int) (k : Nat) (hb : b.length = 64) (ho : o.length = 64) (hk : k < 64) : (tnL b o k).set k (atI b k) = tnL b o (k + 1) := by
 unfold tnL
 have e : o.drop k = o[k]'(by omega) :: o.drop (k + 1) := List.drop_eq_getElem_cons (by omega)
 have e2 : b.take (k + 1) = b.take k ++ [b[k]'(by omega)] := List.take_succ_eq_append_getElem (by omega)
 have e3 : atI b k = b[k]'(by omega) := by unfold atI; simp [List.getElem?_eq_getElem (show k < b.length by omega)]
 rw [e, e2, e3, List.set_append_right _ _ (by simp; omega)]
 have : k - (b.take k).length = 0 := by simp; omega
 rw [this, List.append_assoc]; rfl
abbrev tnE (ks : List Int) (cut i k : Int) : LEnv := [.any, .isl 1 (ints ks), .int i64 cut, .ptr 0 0, .any, .any, .ptr 1 0, .int i64 i, .any, .ptr 2 0, .int i64 i, .ptr 3 0, .any, .any, .sl 1 4 0 64 none, .int i64 k, .any, .any, .any, .any, .any, .any, .any, .any, .any, .any, .any, .any, .any, .any, .any, .any, .any, .any, .any, .any, .any, .any, .any, .any, .any, .any, .any, .any, .any, .any, .any, .any, .any, .any, .any, .any, .any, .any, .any, .any, .any, .any, .any, .any, .any, .any, .any, .any, .any, .any, .any, .any, .any, .any, .any, .any, .any, .any, .any, .any, .any, .any, .any, .any, .any, .any, .any, .any, .any, .any, .any, .any, .any, .any, .any, .any, .any, .any, .any, .any, .any]
abbrev tnX (ks : List Int) (cut i k : Int) : LEnv := [.any, .isl 1 (ints ks), .int i64 cut, .ptr 0 0, .any, .any, .ptr 1 0, .int i64 i, .any, .ptr 2 0, .int i64 i, .ptr 3 0, .any, .any, .sl 1 4 0 64 none, .int i64 k, .any, .any, .any, .any, .any, .any, .any, .any, .any, .any, .any, .any, .any, .any, .any, .any, .any, .any, .any, .any, .any, .any, .any, .any, .any, .any, .any, .any, .any, .any, .any, .any, .any, .any, .any, .any, .any, .any, .any, .any, .any, .any, .any, .any, .any, .any, .any, .any, .any, .any, .any, .any, .any, .any, .any, .any, .any, .any, .int i64 k, .int i64 cut, .bool (decide (k < cut)), .any, .any, .any, .any, .any, .any, .any, .any, .any, .any, .any, .any, .any, .any, .any, .any, .any, .any, .any, .any]
abbrev tnS (rm : Int) (m : ML) (p : PL) (c : ML) (a : Int) (b l : List Int) : St := ⟨5, [(0, LObj.box 35 [.int i64 rm, .isl 2 (cellsR m), .isl 3 (loosR p)]), (1, LObj.box 35 [.int i64 0, .nils, .nils]), (2, LObj.box 35 [.int i64 rm, .isl 2 (cellsR c), .nils]), (3, LObj.box 82 [.int i64 a, .bool false, .isl 1 (bys b)]), (4, LObj.row 5 1 (bys l))]⟩
theorem tn_step (n fu : Nat) (rm : Int) (m : ML) (p : PL) (c : ML) (a : Int) (b o : List Int) (hb : b.length = 64) (ho : o.length = 64) (ks : List Int) (cut i : Int) (hc2 : cut < 64) (k : Nat) (hk : (k : Int) < cut) (r : LX × LEnv × St)
  (hr : loopAt prog Ck (n + 60) 31 2 0 fu (tnE ks cut i ((k : Int) + 1)) (tnS rm m p c a b (tnL b o (k + 1))) = some r) : loopAt prog Ck (n + 60) 31 2 0 (fu + 1) (tnE ks cut i k) (tnS rm m p c a b (tnL b o k)) = some r := by
 have e := tnL_set b o k hb ho (by omega)
 have e2 := tnL_len b o k hb ho (by omega)
 have f1 : decide ((↑k : Int) < cut) = true := by simp; omega
 have f2 : (bys b)[Int.toNat (↑k : Int)]? = some (LV.int IntKind.u8 (atI b k)) := by simp (disch := omega)
 have f3 : 0 ≤ (↑k : Int) ∧ (↑k : Int) < ((bys b).length : Int) := by simp; omega
 have f4 : 0 ≤ (↑k : Int) ∧ (↑k : Int) < 64 := by omega
 have f5 : LV.pel 1 4 (0 + Int.toNat (↑k : Int)) 0 = LV.pel 1 4 k 0 := by simp
 have f6 : (bys (tnL b o k))[k]? = some (LV.int IntKind.u8 (atI (tnL b o k) k)) := by simp (disch := omega)
 have f7 : LObj.row 5 1 (List.set (bys (tnL b o k)) k (LV.int IntKind.u8 (atI b k))) = LObj.row 5 1 (bys (tnL b o (k + 1))) := by simp (disch := omega) [-List.reduceReplicate, hb, ho, hc2, hk, hr, e, e2]
 have f8 : LV.int i64 (IntKind.wrap i64 ((↑k : Int) + 1)) = LV.int i64 ((↑k : Int) + 1) := by simp (disch := omega)
 have f9 := hr
 exact dlp (fun h => ai (congrArg LV.bool f1) <| ai (f3) <| ai (f2) <| ai (f4) <| ai (f5) <| ai (f6) <| ai (congrArg some f7) <| ai (f8) <| ai (Eq.refl (tidyOf f9)) <| ai (f9) <| h) (.i (.s (.s (.a) (.b true (.a))) (.s (.k (.r [.a, .a, .a, .a, .a, .e (rOf f2), .a, .v (vOf f5) (.q), .x 4 (vOf f7) (.e (rOf f6))])) (.r [.a, .v (vOf f8) (.a)]))) (.h [] (eOf f9) (stOf f9) (rOf f9))) (by kernel_rfl)
theorem tn_end (n fu : Nat) (rm : Int) (m : ML) (p : PL) (c : ML) (a : Int) (b l : List Int) (hb : b.length = 64) (hl : l.length = 64) (ks : List Int) (cut i : Int) (k : Int) (hk : cut ≤ k) :
  loopAt prog Ck (n + 60) 31 2 0 (fu + 1) (tnE ks cut i k) (tnS rm m p c a b l) = some (.exit 4, tnX ks cut i k, tnS rm m p c a b l) := by
 have f1 : decide (k < cut) = false := by simp; omega
 exact dlp (fun h => ai (congrArg LV.bool f1) <| h) (.i (.s (.s (.a) (.b false (.a))) .a) (.a)) (by kernel_rfl)
theorem tn_loop (n : Nat) (rm : Int) (m : ML) (p : PL) (c : ML) (a : Int) (b o : List Int) (hb : b.length = 64) (ho : o.length = 64) (ks : List Int) (cut i : Int) (hc2 : cut < 64) : ∀ (j k fu : Nat), (k : Int) + j = max cut 0 → j < fu →
  loopAt prog Ck (n + 60) 31 2 0 fu (tnE ks cut i k) (tnS rm m p c a b (tnL b o k)) = some (.exit 4, tnX ks cut i (max cut 0), tnS rm m p c a b (tnL b o cut.toNat))
 | 0, k, fu, hk, hf => by
  obtain ⟨fu, rfl⟩ : ∃ q, fu = q + 1 := ⟨fu - 1, by omega⟩
  have e : cut.toNat = k := by omega
  have e2 : max cut 0 = (k : Int) := by omega
  rw [e, e2]
  exact tn_end n fu rm m p c a b _ hb (tnL_len b o k hb ho (by omega)) ks cut i k (by omega)
 | j + 1, k, fu, hk, hf => by
  obtain ⟨fu, rfl⟩ : ∃ q, fu = q + 1 := ⟨fu - 1, by omega⟩
  exact tn_step n fu rm m p c a b o hb ho ks cut i hc2 k (by omega) _ (tn_loop n rm m p c a b o hb ho ks cut i hc2 j (k + 1) fu (by omega) (by omega))
theorem xc_torn (n fu : Nat) (rm : Int) (m : ML) (p : PL) (hp : p.length ≤ 1000) (hm : m.length ≤ 100000) (c c' : ML) (ks : List Int) (cut : Int) (i : Int) (h0 : 0 ≤ i) (hi : i < (p.length : Int)) (hk : i < (ks.length : Int)) (h : ¬ atI ks i.toNat = 0) (hc : 0 ≤ cut) (hc2 : cut < 64) (a : Int) (b : List Int) (hx : (loosR p)[i.toNat]? = some (.agg [.int .i64 a, .bool false, .isl 1 (bys b)])) (hb : b.length = 64) (e : Bool) (o : List Int) (ho : o.length ≤ 64) (Fd : ∀ j, 200 < j + 20 → lrun prog Ck (lcall prog Ck (j + 20)) (j + 20) 37 [.isl 2 (cellsR c), .int .i64 a] ⟨0, []⟩ = some (.tup [.isl 1 (bys o), .bool e], ⟨0, []⟩)) (U : ∀ j, 200 < j → lrun prog Ck (lcall prog Ck (j + 40)) (j + 40) 51 [.isl 2 (cellsR c), .agg [.int .i64 a, .bool false, .isl 1 (bys (tnL b (blk o) cut.toNat))]] ⟨0, []⟩ = some (.isl 2 (cellsR c'), ⟨0, []⟩)) (hn : 300 < n) (r : LX × LEnv × St)
  (hr : loopAt prog Ck (n + 60) 31 1 0 fu (xcE ks cut i (i + 1)) (syS rm m p c') = some r) : loopAt prog Ck (n + 60) 31 1 0 (fu + 1) (xcE ks cut i i) (syS rm m p c) = some r := by
 have L := tn_loop n rm m p c a b (blk o) hb (blk_length o) ks cut i hc2 cut.toNat 0 (n + 60) (by omega) (by omega)
 have e0 : tnL b (blk o) 0 = blk o := by simp [tnL]
 have e1 : ((0 : Nat) : Int) = 0 := rfl
 have e2 : max cut 0 = cut := by omega
 have e3 := tnL_len b (blk o) cut.toNat hb (blk_length o) (by omega)
 rw [e0, e1, e2] at L
 have f1 : decide (i < ((loosR p).length : Int)) = true := by simp; omega
 have f2 := kept_1I (n + 49) ks i h0 hk h
 have f3 : (loosR p)[i.toNat]? = some (LV.agg [.int i64 a, .bool false, .isl 1 (bys b)]) := hx
 have f4 : 0 ≤ i ∧ i < ((loosR p).length : Int) := by simp; omega
 have f5 : decide (i = i) = true := by simp
 have f6 : LV.bool (if decide (i = i) = true then true else false) = LV.bool true := by simp
 have f7 : LV.bool (if true = true then decide (0 ≤ cut) else false) = LV.bool true := by simp; omega
 have f8 : LV.bool (if true = true then decide (cut < 64) else false) = LV.bool true := by simp; omega
 have f9 := Fd (n + 39) (by omega)
 have f10 := padc_ok (n + 39) o ho (by omega)
 have f11 := L
 have f12 : (if 4 = 4 then if 1 = 1 ∧ 0 + 64 ≤ List.length (bys (tnL b (blk o) (cut.toNat))) ∧ capLe 64 none = true then LV.isl 1 (List.take 64 (List.drop 0 (bys (tnL b (blk o) (cut.toNat))))) else LV.any else LV.sl 1 4 0 64 none) = LV.isl 1 (bys (tnL b (blk o) (cut.toNat))) := by simp (disch := first | omega | (simp; omega)) [-List.reduceReplicate, if_pos, if_neg]
 have f13 : LV.agg [.int i64 a, .bool false, if 4 = 4 then if 1 = 1 ∧ 0 + 64 ≤ List.length (bys (tnL b (blk o) (cut.toNat))) ∧ capLe 64 none = true then LV.isl 1 (List.take 64 (List.drop 0 (bys (tnL b (blk o) (cut.toNat))))) else LV.any else LV.sl 1 4 0 64 none] = LV.agg [.int i64 a, .bool false, .isl 1 (bys (tnL b (blk o) (cut.toNat)))] := by simp (disch := first | omega | (simp; omega)) [-List.reduceReplicate, if_pos, if_neg]
 have f14 : LObj.box 82 [.int i64 a, .bool false, if 4 = 4 then if 1 = 1 ∧ 0 + 64 ≤ List.length (bys (tnL b (blk o) (cut.toNat))) ∧ capLe 64 none = true then LV.isl 1 (List.take 64 (List.drop 0 (bys (tnL b (blk o) (cut.toNat))))) else LV.any else LV.sl 1 4 0 64 none] = LObj.box 82 [.int i64 a, .bool false, .isl 1 (bys (tnL b (blk o) (cut.toNat)))] := by simp (disch := first | omega | (simp; omega)) [-List.reduceReplicate, if_pos, if_neg]
 have f15 := U (n + 19) (by omega)
 have f16 : LV.int i64 (IntKind.wrap i64 (i + 1)) = LV.int i64 (i + 1) := by simp (disch := omega)
 have f17 := hr
 exact dlp (fun h => ai (congrArg LV.bool f1) <| ai (f2) <| ai (f4) <| ai (f3) <| ai (congrArg some f5) <| ai (congrArg some f5) <| ai (congrArg some f5) <| ai (f6) <| ai (f7) <| ai (f8) <| ai (f9) <| ai (f10) <| ai (Eq.refl (tidyOf f11)) <| ai (f11) <| ai (f12) <| ai (f12) <| ai (f13) <| ai (f13) <| ai (congrArg some f14) <| ai (f15) <| ai (f16) <| ai (Eq.refl (tidyOf f17)) <| ai (f17) <| h) (.i (.s (.s (.a) (.b true (.a))) (.s (.k (.s (.s (.r [.a, .a, .f (rOf f2)]) (.a)) (.s (.r [.a, .a, .a, .e (rOf f3)]) (.s (.s (.r [.a, .a, .a, .a, .g true (.a), .g true (.a), .g true (.a), .v (vOf f6) (.a), .a, .a, .a, .v (vOf f7) (.a), .a, .a, .a, .v (vOf f8) (.a)]) (.c (.s (.r [.a, .a, .a, .a, .f (rOf f9)]) (.s (.r [.a, .f (rOf f10)]) (.s (.s (.a) (.k (.l (.h [] (eOf f11) (stOf f11) (rOf f11))))) (.a)))))) (.r [.a, .a, .a, .z [.y 14 (vOf f12), .y 89 (vOf f12), .y 90 (vOf f13), .y 93 (vOf f13), .x 3 (vOf f14)] (.f (rOf f15))]))))) (.r [.a, .v (vOf f16) (.a)]))) (.h [] (eOf f17) (stOf f17) (rOf f17))) (by kernel_rfl)
end Go.Mac
namespace Go.Mac
open Go Go.Eng Go.Proofs Go.Mac.Nd
open Go.IntKind (i64)
open Go.Proofs.Tryd (prog)
set_option maxHeartbeats 0
set_option maxRecDepth 100000
abbrev fiE (m : ML) (a i : Int) : LEnv := [.isl 2 (cellsR m), .int i64 a, .any, .any, .any, .any, .int i64 i, .any, .any, .any, .any, .any, .any, .any, .any, .any, .any, .any, .any, .any, .any, .any, .any, .any, .any]
abbrev fiX (m : ML) (a i : Int) : LEnv := [.isl 2 (cellsR m), .int i64 a, .any, .any, .any, .any, .int i64 i, .int i64 i, .isl 2 (cellsR m), .int i64 ((cellsR m).length : Int), .bool (decide (i < ((cellsR m).length : Int))), .any, .any, .any, .any, .any, .any, .any, .any, .any, .any, .any, .any, .any, .any]
abbrev fiH (m : ML) (a i : Int) (b : List Int) : LEnv := [.isl 2 (cellsR m), .int i64 a, .any, .any, .isl 1 (bys b), .bool true, .int i64 i, .int i64 i, .isl 2 (cellsR m), .int i64 ((cellsR m).length : Int), .bool (decide (i < ((cellsR m).length : Int))), .any, .any, .isl 2 (cellsR m), .int i64 i, (LV.agg [.int i64 a, .isl 1 (bys b)]).irp, (LV.int i64 a).irp, .int i64 a, .int i64 a, .bool (decide (a = a)), .isl 2 (cellsR m), .int i64 i, (LV.agg [.int i64 a, .isl 1 (bys b)]).irp, (LV.isl 1 (bys b)).irp, .isl 1 (bys b)]
theorem fi_step (n fu : Nat) (m : ML) (hm : m.length ≤ 1000000) (a i : Int) (h0 : 0 ≤ i) (hi : i < (m.length : Int)) (c : Int) (b : List Int) (hx : (cellsR m)[i.toNat]? = some (.agg [.int .i64 c, .isl 1 (bys b)])) (hne : ¬ c = a) (r : LX × LEnv × St)
  (hr : loopAt prog Ck (n + 20) 37 0 0 fu (fiE m a (i + 1)) ⟨0, []⟩ = some r) : loopAt prog Ck (n + 20) 37 0 0 (fu + 1) (fiE m a i) ⟨0, []⟩ = some r := by
 have f1 : decide (i < ((cellsR m).length : Int)) = true := by simp; omega
 have f2 : (cellsR m)[i.toNat]? = some (LV.agg [.int i64 c, .isl 1 (bys b)]) := hx
 have f3 : 0 ≤ i ∧ i < ((cellsR m).length : Int) := by simp; omega
 have f4 : decide (c = a) = false := by simp; omega
 have f5 : LV.int i64 (IntKind.wrap i64 (i + 1)) = LV.int i64 (i + 1) := by simp (disch := omega)
 have f6 := hr
 exact dlp (fun h => ai (congrArg LV.bool f1) <| ai (f3) <| ai (f2) <| ai (congrArg LV.bool f4) <| ai (f5) <| ai (Eq.refl (tidyOf f6)) <| ai (f6) <| h) (.i (.s (.s (.a) (.b true (.a))) (.s (.k (.s (.r [.a, .a, .e (rOf f2)]) (.b false (.a)))) (.r [.a, .v (vOf f5) (.a)]))) (.h [] (eOf f6) (stOf f6) (rOf f6))) (by kernel_rfl)
theorem fi_hit (n fu : Nat) (m : ML) (hm : m.length ≤ 1000000) (a i : Int) (h0 : 0 ≤ i) (hi : i < (m.length : Int)) (b : List Int) (hx : (cellsR m)[i.toNat]? = some (.agg [.int .i64 a, .isl 1 (bys b)])) :
  loopAt prog Ck (n + 20) 37 0 0 (fu + 1) (fiE m a i) ⟨0, []⟩ = some (.ret, fiH m a i b, ⟨0, []⟩) := by
 have f1 : decide (i < ((cellsR m).length : Int)) = true := by simp; omega
 have f2 : (cellsR m)[i.toNat]? = some (LV.agg [.int i64 a, .isl 1 (bys b)]) := hx
 have f3 : 0 ≤ i ∧ i < ((cellsR m).length : Int) := by simp; omega
 have f4 : decide (a = a) = true := by simp
 exact dlp (fun h => ai (congrArg LV.bool f1) <| ai (f3) <| ai (f2) <| ai (congrArg LV.bool f4) <| ai (f3) <| ai (f2) <| h) (.i (.s (.s (.a) (.b true (.a))) (.s (.k (.s (.r [.a, .a, .e (rOf f2)]) (.b true (.s (.r [.a, .a, .e (rOf f2)]) (.a))))) .a)) (.a)) (by kernel_rfl)
theorem fi_end (n fu : Nat) (m : ML) (hm : m.length ≤ 1000000) (a i : Int) (hi : (m.length : Int) ≤ i) :
  loopAt prog Ck (n + 20) 37 0 0 (fu + 1) (fiE m a i) ⟨0, []⟩ = some (.exit 0, fiX m a i, ⟨0, []⟩) := by
 have f1 : decide (i < ((cellsR m).length : Int)) = false := by simp; omega
 exact dlp (fun h => ai (congrArg LV.bool f1) <| h) (.i (.s (.s (.a) (.b false (.a))) .a) (.a)) (by kernel_rfl)
theorem find_hit (n : Nat) (m : ML) (hm : m.length ≤ 1000000) (a i : Int) (b : List Int) (L : loopAt prog Ck (n + 20) 37 0 0 (n + 20) (fiE m a 0) ⟨0, []⟩ = some (.ret, fiH m a i b, ⟨0, []⟩)) :
  lrun prog Ck (lcall prog Ck (n + 20)) (n + 20) 37 [.isl 2 (cellsR m), .int .i64 a] ⟨0, []⟩ = some (.tup [.isl 1 (bys b), .bool true], ⟨0, []⟩) := by
 have f1 := L
 exact drn (fun h => ai (Eq.refl (tidyOf f1)) <| ai (f1) <| h) (.s (.a) (.s (.s (.a) (.k (.l (.h [] (eOf f1) (stOf f1) (rOf f1))))) .a)) [] .a (by kernel_rfl)
theorem find_none (n : Nat) (m : ML) (hm : m.length ≤ 1000000) (a : Int) (L : loopAt prog Ck (n + 20) 37 0 0 (n + 20) (fiE m a 0) ⟨0, []⟩ = some (.exit 0, fiX m a m.length, ⟨0, []⟩)) :
  lrun prog Ck (lcall prog Ck (n + 20)) (n + 20) 37 [.isl 2 (cellsR m), .int .i64 a] ⟨0, []⟩ = some (.tup [.isl 1 [], .bool false], ⟨0, []⟩) := by
 have f1 := L
 exact drn (fun h => ai (Eq.refl (tidyOf f1)) <| ai (f1) <| h) (.s (.a) (.s (.s (.a) (.k (.l (.h [] (eOf f1) (stOf f1) (rOf f1))))) (.a))) [] .a (by kernel_rfl)
end Go.Mac
namespace Go.Mac
open Go Go.Eng Go.Proofs Go.Mac.Nd
open Go.IntKind (i64)
open Go.Proofs.Tryd (prog)
set_option maxHeartbeats 0
set_option maxRecDepth 100000
abbrev boxW (a : Int) (f : Bool) (b : LV) : LObj := .box 82 [.int .i64 a, .bool f, b]
abbrev puN (a : Int) (f : Bool) (b : LV) : St := ⟨1, [(0, boxW a f b)]⟩
abbrev puS (a : Int) (f : Bool) (b : LV) (o : ML) : St := ⟨2, [(0, boxW a f b), (1, .row 58 2 (cellsR o))]⟩
@[simp] theorem cellsR_snoc (o : ML) (a : Int) (b : List Int) : cellsR o ++ [.agg [.int .i64 a, .isl 1 (bys b)]] = cellsR (o ++ [(a, b)]) := by simp [cellsR, cellR]
@[simp] theorem cellsR_snoc2 (o : ML) (a c : Int) (b v : List Int) : cellsR o ++ [.agg [.int .i64 a, .isl 1 (bys b)], .agg [.int .i64 c, .isl 1 (bys v)]] = cellsR (o ++ [(a, b), (c, v)]) := by simp [cellsR, cellR]
abbrev puE (m : ML) (ov : LV) (d : Bool) (i : Int) : LEnv := [.isl 2 (cellsR m), .any, .any, .ptr 0 0, .any, ov, .bool d, .int i64 i, .any, .any, .any, .any, .any, .any, .any, .any, .any, .any, .any, .any, .any, .any, .any, .any, .any, .any, .any, .any, .any, .any, .any, .any, .any, .any, .any, .any, .any, .any, .any, .any, .any, .any, .any, .any, .any, .any, .any, .any, .any, .any, .any, .any, .any, .any, .any, .any, .any, .any, .any, .any, .any, .any]
abbrev puX (m : ML) (ov : LV) (d : Bool) (i : Int) : LEnv := [.isl 2 (cellsR m), .any, .any, .ptr 0 0, .any, ov, .bool d, .int i64 i, .any, .any, .int i64 i, .isl 2 (cellsR m), .int i64 ((cellsR m).length : Int), .bool (decide (i < ((cellsR m).length : Int))), .any, .any, .any, .any, .any, .any, .any, .any, .any, .any, .any, .any, .any, .any, .any, .any, .any, .any, .any, .any, .any, .any, .any, .any, .any, .any, .any, .any, .any, .any, .any, .any, .any, .any, .any, .any, .any, .any, .any, .any, .any, .any, .any, .any, .any, .any, .any, .any]
theorem pw_keepN (n fu : Nat) (m : ML) (hm : m.length ≤ 100000) (a : Int) (b : List Int) (i : Int) (h0 : 0 ≤ i) (hi : i < (m.length : Int)) (c : Int) (v : List Int) (hx : (cellsR m)[i.toNat]? = some (.agg [.int .i64 c, .isl 1 (bys v)])) (hc : c < a) (r : LX × LEnv × St)
  (hr : loopAt prog Ck (n + 40) 51 0 0 fu (puE m (.sl 2 1 0 1 none) false (i + 1)) (puS a false (.isl 1 (bys b)) [(c, v)]) = some r) : loopAt prog Ck (n + 40) 51 0 0 (fu + 1) (puE m .nils false i) (puN a false (.isl 1 (bys b))) = some r := by
 have f1 : decide (i < ((cellsR m).length : Int)) = true := by simp; omega
 have f2 : (cellsR m)[i.toNat]? = some (LV.agg [.int i64 c, .isl 1 (bys v)]) := hx
 have f3 : 0 ≤ i ∧ i < ((cellsR m).length : Int) := by simp; omega
 have f4 : LV.bool (if true = true then decide (a ≤ c) else false) = LV.bool false := by simp; omega
 have f5 : (!decide (c = a)) = true := by simp; omega
 have f6 : LV.int i64 (IntKind.wrap i64 (i + 1)) = LV.int i64 (i + 1) := by simp (disch := omega)
 have f7 : LObj.row 58 2 (List.take 1 (List.drop 0 (List.set [.agg [.int i64 0, .nils]] 0 (LV.agg [.int i64 c, .isl 1 (bys v)])))) = LObj.row 58 2 [.agg [.int i64 c, .isl 1 (bys v)]] := by simp
 have f8 := hr
 exact dlp (fun h => ai (congrArg LV.bool f1) <| ai (f3) <| ai (f2) <| ai (f4) <| ai (f3) <| ai (f2) <| ai (congrArg LV.bool f5) <| ai (f3) <| ai (f2) <| ai (f6) <| ai (congrArg some f7) <| ai (Eq.refl (tidyOf f8)) <| ai (f8) <| h) (.i (.s (.s (.a) (.b true (.a))) (.s (.k (.s (.s (.d [] [.a, .a, .a, .a, .a, .e (rOf f2), .a, .a, .a, .a] [] [.a, .v (vOf f4) (.a)]) (.a)) (.s (.d [] [.a, .a, .e (rOf f2), .a, .a, .a, .a] [] []) (.b true (.r [.a, .a, .a, .e (rOf f2)]))))) (.r [.a, .v (vOf f6) (.a)]))) (.h [.x 1 (vOf f7)] (eOf f8) (stOf f8) (rOf f8))) (by kernel_rfl)
theorem pw_eqN (n fu : Nat) (m : ML) (hm : m.length ≤ 100000) (a : Int) (b : List Int) (i : Int) (h0 : 0 ≤ i) (hi : i < (m.length : Int)) (c : Int) (v : List Int) (hx : (cellsR m)[i.toNat]? = some (.agg [.int .i64 c, .isl 1 (bys v)])) (hc : c = a) (r : LX × LEnv × St)
  (hr : loopAt prog Ck (n + 40) 51 0 0 fu (puE m (.sl 2 1 0 1 none) true (i + 1)) (puS a false (.isl 1 (bys b)) [(a, b)]) = some r) : loopAt prog Ck (n + 40) 51 0 0 (fu + 1) (puE m .nils false i) (puN a false (.isl 1 (bys b))) = some r := by
 have f1 : decide (i < ((cellsR m).length : Int)) = true := by simp; omega
 have f2 : (cellsR m)[i.toNat]? = some (LV.agg [.int i64 c, .isl 1 (bys v)]) := hx
 have f3 : 0 ≤ i ∧ i < ((cellsR m).length : Int) := by simp; omega
 have f4 : LV.irp (LV.agg [.int i64 c, .isl 1 (bys v)]) = LV.irp (LV.agg [.int i64 a, .isl 1 (bys v)]) := by simp; omega
 have f5 : LV.bool (if true = true then decide (a ≤ a) else false) = LV.bool true := by simp
 have f6 : LObj.row 58 2 (List.take 1 (List.drop 0 (List.set [.agg [.int i64 0, .nils]] 0 (LV.agg [.int i64 a, .isl 1 (bys b)])))) = LObj.row 58 2 [.agg [.int i64 a, .isl 1 (bys b)]] := by simp
 have f7 : LObj.row 58 2 (List.set [.agg [.int i64 0, .nils]] 0 (LV.agg [.int i64 a, .isl 1 (bys b)])) = LObj.row 58 2 [.agg [.int i64 a, .isl 1 (bys b)]] := by simp
 have f8 : (!decide (a = a)) = false := by simp
 have f9 : LV.int i64 (IntKind.wrap i64 (i + 1)) = LV.int i64 (i + 1) := by simp (disch := omega)
 have f10 := hr
 exact dlp (fun h => ai (congrArg LV.bool f1) <| ai (f3) <| ai (f2) <| ai (f4) <| ai (f5) <| ai (f3) <| ai (f2) <| ai (f4) <| ai (congrArg some f6) <| ai (congrArg some f7) <| ai (congrArg LV.bool f8) <| ai (f9) <| ai (Eq.refl (tidyOf f10)) <| ai (f10) <| h) (.i (.s (.s (.a) (.b true (.a))) (.s (.k (.s (.s (.d [] [.a, .a, .a, .a, .a, .v (vOf f4) (.e (rOf f2)), .a, .a, .a, .a] [] [.a, .v (vOf f5) (.a)]) (.a)) (.s (.d [] [.a, .a, .x 1 (vOf f7) (.x 2 (vOf f6) (.v (vOf f4) (.e (rOf f2)))), .a, .a, .a, .a] [] []) (.b false (.a))))) (.r [.a, .v (vOf f9) (.a)]))) (.h [] (eOf f10) (stOf f10) (rOf f10))) (by kernel_rfl)
theorem pw_gtN (n fu : Nat) (m : ML) (hm : m.length ≤ 100000) (a : Int) (b : List Int) (i : Int) (h0 : 0 ≤ i) (hi : i < (m.length : Int)) (c : Int) (v : List Int) (hx : (cellsR m)[i.toNat]? = some (.agg [.int .i64 c, .isl 1 (bys v)])) (hc : a < c) (r : LX × LEnv × St)
  (hr : loopAt prog Ck (n + 40) 51 0 0 fu (puE m (.sl 2 1 0 2 none) true (i + 1)) (puS a false (.isl 1 (bys b)) [(a, b), (c, v)]) = some r) : loopAt prog Ck (n + 40) 51 0 0 (fu + 1) (puE m .nils false i) (puN a false (.isl 1 (bys b))) = some r := by
 have f1 : decide (i < ((cellsR m).length : Int)) = true := by simp; omega
 have f2 : (cellsR m)[i.toNat]? = some (LV.agg [.int i64 c, .isl 1 (bys v)]) := hx
 have f3 : 0 ≤ i ∧ i < ((cellsR m).length : Int) := by simp; omega
 have f4 : LV.bool (if true = true then decide (a ≤ c) else false) = LV.bool true := by simp; omega
 have f5 : LObj.row 58 2 (List.take 1 (List.drop 0 (List.set [.agg [.int i64 0, .nils]] 0 (LV.agg [.int i64 a, .isl 1 (bys b)])))) = LObj.row 58 2 [.agg [.int i64 a, .isl 1 (bys b)]] := by simp
 have f6 : LObj.row 58 2 (List.set [.agg [.int i64 0, .nils]] 0 (LV.agg [.int i64 a, .isl 1 (bys b)])) = LObj.row 58 2 [.agg [.int i64 a, .isl 1 (bys b)]] := by simp
 have f7 : (!decide (c = a)) = true := by simp; omega
 have f8 : LV.int i64 (IntKind.wrap i64 (i + 1)) = LV.int i64 (i + 1) := by simp (disch := omega)
 have f9 : LObj.row 58 2 ([.agg [.int i64 a, .isl 1 (bys b)]] ++ List.take 1 (List.drop 0 (List.set [.agg [.int i64 0, .nils]] 0 (LV.agg [.int i64 c, .isl 1 (bys v)])))) = LObj.row 58 2 [.agg [.int i64 a, .isl 1 (bys b)], .agg [.int i64 c, .isl 1 (bys v)]] := by simp
 have f10 := hr
 exact dlp (fun h => ai (congrArg LV.bool f1) <| ai (f3) <| ai (f2) <| ai (f4) <| ai (f3) <| ai (f2) <| ai (congrArg some f5) <| ai (congrArg some f6) <| ai (congrArg LV.bool f7) <| ai (f3) <| ai (f2) <| ai (f8) <| ai (congrArg some f9) <| ai (Eq.refl (tidyOf f10)) <| ai (f10) <| h) (.i (.s (.s (.a) (.b true (.a))) (.s (.k (.s (.s (.d [] [.a, .a, .a, .a, .a, .e (rOf f2), .a, .a, .a, .a] [] [.a, .v (vOf f4) (.a)]) (.a)) (.s (.d [] [.a, .a, .x 1 (vOf f6) (.x 2 (vOf f5) (.e (rOf f2))), .a, .a, .a, .a] [] []) (.b true (.r [.a, .a, .a, .e (rOf f2)]))))) (.r [.a, .v (vOf f8) (.a)]))) (.h [.x 1 (vOf f9)] (eOf f10) (stOf f10) (rOf f10))) (by kernel_rfl)
theorem pw_endN (n fu : Nat) (m : ML) (hm : m.length ≤ 100000) (a : Int) (b : List Int) (i : Int) (hi : (m.length : Int) ≤ i) :
  loopAt prog Ck (n + 40) 51 0 0 (fu + 1) (puE m .nils false i) (puN a false (.isl 1 (bys b))) = some (.exit 0, puX m .nils false i, (puN a false (.isl 1 (bys b)))) := by
 have f1 : decide (i < ((cellsR m).length : Int)) = false := by simp; omega
 exact dlp (fun h => ai (congrArg LV.bool f1) <| h) (.i (.s (.s (.a) (.b false (.a))) .a) (.a)) (by kernel_rfl)
theorem pf_keepN (n fu : Nat) (m : ML) (hm : m.length ≤ 100000) (a : Int) (i : Int) (h0 : 0 ≤ i) (hi : i < (m.length : Int)) (c : Int) (v : List Int) (hx : (cellsR m)[i.toNat]? = some (.agg [.int .i64 c, .isl 1 (bys v)])) (hc : ¬ c = a) (r : LX × LEnv × St)
  (hr : loopAt prog Ck (n + 40) 51 0 0 fu (puE m (.sl 2 1 0 1 none) true (i + 1)) (puS a true .nils [(c, v)]) = some r) : loopAt prog Ck (n + 40) 51 0 0 (fu + 1) (puE m .nils true i) (puN a true .nils) = some r := by
 have f1 : decide (i < ((cellsR m).length : Int)) = true := by simp; omega
 have f2 : (cellsR m)[i.toNat]? = some (LV.agg [.int i64 c, .isl 1 (bys v)]) := hx
 have f3 : 0 ≤ i ∧ i < ((cellsR m).length : Int) := by simp; omega
 have f4 : (!decide (c = a)) = true := by simp; omega
 have f5 : LV.int i64 (IntKind.wrap i64 (i + 1)) = LV.int i64 (i + 1) := by simp (disch := omega)
 have f6 : LObj.row 58 2 (List.take 1 (List.drop 0 (List.set [.agg [.int i64 0, .nils]] 0 (LV.agg [.int i64 c, .isl 1 (bys v)])))) = LObj.row 58 2 [.agg [.int i64 c, .isl 1 (bys v)]] := by simp
 have f7 := hr
 exact dlp (fun h => ai (congrArg LV.bool f1) <| ai (f3) <| ai (f2) <| ai (congrArg LV.bool f4) <| ai (f3) <| ai (f2) <| ai (f5) <| ai (congrArg some f6) <| ai (Eq.refl (tidyOf f7)) <| ai (f7) <| h) (.i (.s (.s (.a) (.b true (.a))) (.s (.k (.s (.a) (.s (.d [] [.a, .a, .e (rOf f2), .a, .a, .a, .a] [] []) (.b true (.r [.a, .a, .a, .e (rOf f2)]))))) (.r [.a, .v (vOf f5) (.a)]))) (.h [.x 1 (vOf f6)] (eOf f7) (stOf f7) (rOf f7))) (by kernel_rfl)
theorem pf_eqN (n fu : Nat) (m : ML) (hm : m.length ≤ 100000) (a : Int) (i : Int) (h0 : 0 ≤ i) (hi : i < (m.length : Int)) (c : Int) (v : List Int) (hx : (cellsR m)[i.toNat]? = some (.agg [.int .i64 c, .isl 1 (bys v)])) (hc : c = a) (r : LX × LEnv × St)
  (hr : loopAt prog Ck (n + 40) 51 0 0 fu (puE m .nils true (i + 1)) (puN a true .nils) = some r) : loopAt prog Ck (n + 40) 51 0 0 (fu + 1) (puE m .nils true i) (puN a true .nils) = some r := by
 have f1 : decide (i < ((cellsR m).length : Int)) = true := by simp; omega
 have f2 : (cellsR m)[i.toNat]? = some (LV.agg [.int i64 c, .isl 1 (bys v)]) := hx
 have f3 : 0 ≤ i ∧ i < ((cellsR m).length : Int) := by simp; omega
 have f4 : LV.irp (LV.agg [.int i64 c, .isl 1 (bys v)]) = LV.irp (LV.agg [.int i64 a, .isl 1 (bys v)]) := by simp; omega
 have f5 : (!decide (a = a)) = false := by simp
 have f6 : LV.int i64 (IntKind.wrap i64 (i + 1)) = LV.int i64 (i + 1) := by simp (disch := omega)
 have f7 := hr
 exact dlp (fun h => ai (congrArg LV.bool f1) <| ai (f3) <| ai (f2) <| ai (f4) <| ai (congrArg LV.bool f5) <| ai (f6) <| ai (Eq.refl (tidyOf f7)) <| ai (f7) <| h) (.i (.s (.s (.a) (.b true (.a))) (.s (.k (.s (.a) (.s (.d [] [.a, .a, .v (vOf f4) (.e (rOf f2)), .a, .a, .a, .a] [] []) (.b false (.a))))) (.r [.a, .v (vOf f6) (.a)]))) (.h [] (eOf f7) (stOf f7) (rOf f7))) (by kernel_rfl)
theorem pf_endN (n fu : Nat) (m : ML) (hm : m.length ≤ 100000) (a : Int) (i : Int) (hi : (m.length : Int) ≤ i) :
  loopAt prog Ck (n + 40) 51 0 0 (fu + 1) (puE m .nils true i) (puN a true .nils) = some (.exit 0, puX m .nils true i, (puN a true .nils)) := by
 have f1 : decide (i < ((cellsR m).length : Int)) = false := by simp; omega
 exact dlp (fun h => ai (congrArg LV.bool f1) <| h) (.i (.s (.s (.a) (.b false (.a))) .a) (.a)) (by kernel_rfl)
theorem pw_keepR (n fu : Nat) (m : ML) (hm : m.length ≤ 100000) (o : ML) (ho : o.length ≤ 100000) (ho2 : 0 < o.length) (a : Int) (b : List Int) (i : Int) (h0 : 0 ≤ i) (hi : i < (m.length : Int)) (c : Int) (v : List Int) (hx : (cellsR m)[i.toNat]? = some (.agg [.int .i64 c, .isl 1 (bys v)])) (hc : c < a) (r : LX × LEnv × St)
  (hr : loopAt prog Ck (n + 40) 51 0 0 fu (puE m (.sl 2 1 0 (o.length + 1) none) false (i + 1)) (puS a false (.isl 1 (bys b)) (o ++ [(c, v)])) = some r) : loopAt prog Ck (n + 40) 51 0 0 (fu + 1) (puE m (.sl 2 1 0 o.length none) false i) (puS a false (.isl 1 (bys b)) o) = some r := by
 have f1 : decide (i < ((cellsR m).length : Int)) = true := by simp; omega
 have f2 : (cellsR m)[i.toNat]? = some (LV.agg [.int i64 c, .isl 1 (bys v)]) := hx
 have f3 : 0 ≤ i ∧ i < ((cellsR m).length : Int) := by simp; omega
 have f4 : LV.bool (if true = true then decide (a ≤ c) else false) = LV.bool false := by simp; omega
 have f5 : (!decide (c = a)) = true := by simp; omega
 have f6 : 1 ≤ 1 := by omega
 have f7 : List.length (cellsR o) = List.length o ∧ (List.length o + 1) * 32 ≤ 140737488355328 := by simp; omega
 have f8 : LObj.row 58 2 (cellsR o ++ List.take 1 (List.drop 0 (List.set [.agg [.int i64 0, .nils]] 0 (LV.agg [.int i64 c, .isl 1 (bys v)])))) = LObj.row 58 2 (cellsR (o ++ [(c, v)])) := by simp
 have f9 : LObj.row 58 2 (List.set [.agg [.int i64 0, .nils]] 0 (LV.agg [.int i64 c, .isl 1 (bys v)])) = LObj.row 58 2 [.agg [.int i64 c, .isl 1 (bys v)]] := by simp
 have f10 : LV.int i64 (IntKind.wrap i64 (i + 1)) = LV.int i64 (i + 1) := by simp (disch := omega)
 have f11 := hr
 exact dlp (fun h => ai (congrArg LV.bool f1) <| ai (f3) <| ai (f2) <| ai (f4) <| ai (f3) <| ai (f2) <| ai (congrArg LV.bool f5) <| ai (f3) <| ai (f2) <| ai (f6) <| ai (f7) <| ai (congrArg some f8) <| ai (congrArg some f9) <| ai (f10) <| ai (Eq.refl (tidyOf f11)) <| ai (f11) <| h) (.i (.s (.s (.a) (.b true (.a))) (.s (.k (.s (.s (.d [] [.a, .a, .a, .a, .a, .e (rOf f2), .a, .a, .a, .a] [] [.a, .v (vOf f4) (.a)]) (.a)) (.s (.d [] [.a, .a, .e (rOf f2), .a, .a, .a, .a] [] []) (.b true (.r [.a, .a, .a, .e (rOf f2), .a, .a, .x 2 (vOf f9) (.x 3 (vOf f8) (.q))]))))) (.r [.a, .v (vOf f10) (.a)]))) (.h [] (eOf f11) (stOf f11) (rOf f11))) (by kernel_rfl)
theorem pw_eqR (n fu : Nat) (m : ML) (hm : m.length ≤ 100000) (o : ML) (ho : o.length ≤ 100000) (ho2 : 0 < o.length) (a : Int) (b : List Int) (i : Int) (h0 : 0 ≤ i) (hi : i < (m.length : Int)) (c : Int) (v : List Int) (hx : (cellsR m)[i.toNat]? = some (.agg [.int .i64 c, .isl 1 (bys v)])) (hc : c = a) (r : LX × LEnv × St)
  (hr : loopAt prog Ck (n + 40) 51 0 0 fu (puE m (.sl 2 1 0 (o.length + 1) none) true (i + 1)) (puS a false (.isl 1 (bys b)) (o ++ [(a, b)])) = some r) : loopAt prog Ck (n + 40) 51 0 0 (fu + 1) (puE m (.sl 2 1 0 o.length none) false i) (puS a false (.isl 1 (bys b)) o) = some r := by
 have f1 : decide (i < ((cellsR m).length : Int)) = true := by simp; omega
 have f2 : (cellsR m)[i.toNat]? = some (LV.agg [.int i64 c, .isl 1 (bys v)]) := hx
 have f3 : 0 ≤ i ∧ i < ((cellsR m).length : Int) := by simp; omega
 have f4 : LV.irp (LV.agg [.int i64 c, .isl 1 (bys v)]) = LV.irp (LV.agg [.int i64 a, .isl 1 (bys v)]) := by simp; omega
 have f5 : LV.bool (if true = true then decide (a ≤ a) else false) = LV.bool true := by simp
 have f6 : 1 ≤ 1 := by omega
 have f7 : List.length (cellsR o) = List.length o ∧ (List.length o + 1) * 32 ≤ 140737488355328 := by simp; omega
 have f8 : LObj.row 58 2 (cellsR o ++ List.take 1 (List.drop 0 (List.set [.agg [.int i64 0, .nils]] 0 (LV.agg [.int i64 a, .isl 1 (bys b)])))) = LObj.row 58 2 (cellsR (o ++ [(a, b)])) := by simp
 have f9 : LObj.row 58 2 (List.set [.agg [.int i64 0, .nils]] 0 (LV.agg [.int i64 a, .isl 1 (bys b)])) = LObj.row 58 2 [.agg [.int i64 a, .isl 1 (bys b)]] := by simp
 have f10 : (!decide (a = a)) = false := by simp
 have f11 : LV.int i64 (IntKind.wrap i64 (i + 1)) = LV.int i64 (i + 1) := by simp (disch := omega)
 have f12 := hr
 exact dlp (fun h => ai (congrArg LV.bool f1) <| ai (f3) <| ai (f2) <| ai (f4) <| ai (f5) <| ai (f6) <| ai (f7) <| ai (congrArg some f8) <| ai (congrArg some f9) <| ai (f3) <| ai (f2) <| ai (f4) <| ai (congrArg LV.bool f10) <| ai (f11) <| ai (Eq.refl (tidyOf f12)) <| ai (f12) <| h) (.i (.s (.s (.a) (.b true (.a))) (.s (.k (.s (.s (.d [] [.a, .a, .a, .a, .a, .v (vOf f4) (.e (rOf f2)), .a, .a, .a, .a] [] [.a, .v (vOf f5) (.a)]) (.c (.s (.r [.a, .a, .a, .a, .a, .a, .a, .x 2 (vOf f9) (.x 3 (vOf f8) (.q))]) (.a)))) (.s (.d [] [.a, .a, .v (vOf f4) (.e (rOf f2)), .a, .a, .a, .a] [] []) (.b false (.a))))) (.r [.a, .v (vOf f11) (.a)]))) (.h [] (eOf f12) (stOf f12) (rOf f12))) (by kernel_rfl)
theorem pw_gtR (n fu : Nat) (m : ML) (hm : m.length ≤ 100000) (o : ML) (ho : o.length ≤ 100000) (ho2 : 0 < o.length) (a : Int) (b : List Int) (i : Int) (h0 : 0 ≤ i) (hi : i < (m.length : Int)) (c : Int) (v : List Int) (hx : (cellsR m)[i.toNat]? = some (.agg [.int .i64 c, .isl 1 (bys v)])) (hc : a < c) (r : LX × LEnv × St)
  (hr : loopAt prog Ck (n + 40) 51 0 0 fu (puE m (.sl 2 1 0 (o.length + 1 + 1) none) true (i + 1)) (puS a false (.isl 1 (bys b)) (o ++ [(a, b), (c, v)])) = some r) : loopAt prog Ck (n + 40) 51 0 0 (fu + 1) (puE m (.sl 2 1 0 o.length none) false i) (puS a false (.isl 1 (bys b)) o) = some r := by
 have f1 : decide (i < ((cellsR m).length : Int)) = true := by simp; omega
 have f2 : (cellsR m)[i.toNat]? = some (LV.agg [.int i64 c, .isl 1 (bys v)]) := hx
 have f3 : 0 ≤ i ∧ i < ((cellsR m).length : Int) := by simp; omega
 have f4 : LV.bool (if true = true then decide (a ≤ c) else false) = LV.bool true := by simp; omega
 have f5 : 1 ≤ 1 := by omega
 have f6 : List.length (cellsR o) = List.length o ∧ (List.length o + 1) * 32 ≤ 140737488355328 := by simp; omega
 have f7 : LObj.row 58 2 (cellsR o ++ List.take 1 (List.drop 0 (List.set [.agg [.int i64 0, .nils]] 0 (LV.agg [.int i64 a, .isl 1 (bys b)])))) = LObj.row 58 2 (cellsR (o ++ [(a, b)])) := by simp
 have f8 : LObj.row 58 2 (List.set [.agg [.int i64 0, .nils]] 0 (LV.agg [.int i64 a, .isl 1 (bys b)])) = LObj.row 58 2 [.agg [.int i64 a, .isl 1 (bys b)]] := by simp
 have f9 : (!decide (c = a)) = true := by simp; omega
 have f10 : List.length (cellsR (o ++ [(a, b)])) = List.length o + 1 ∧ (List.length o + 1 + 1) * 32 ≤ 140737488355328 := by simp; omega
 have f11 : LObj.row 58 2 (cellsR (o ++ [(a, b)]) ++ List.take 1 (List.drop 0 (List.set [.agg [.int i64 0, .nils]] 0 (LV.agg [.int i64 c, .isl 1 (bys v)])))) = LObj.row 58 2 (cellsR (o ++ [(a, b), (c, v)])) := by simp
 have f12 : LObj.row 58 2 (List.set [.agg [.int i64 0, .nils]] 0 (LV.agg [.int i64 c, .isl 1 (bys v)])) = LObj.row 58 2 [.agg [.int i64 c, .isl 1 (bys v)]] := by simp
 have f13 : LV.int i64 (IntKind.wrap i64 (i + 1)) = LV.int i64 (i + 1) := by simp (disch := omega)
 have f14 := hr
 exact dlp (fun h => ai (congrArg LV.bool f1) <| ai (f3) <| ai (f2) <| ai (f4) <| ai (f5) <| ai (f6) <| ai (congrArg some f7) <| ai (congrArg some f8) <| ai (f3) <| ai (f2) <| ai (congrArg LV.bool f9) <| ai (f3) <| ai (f2) <| ai (f5) <| ai (f10) <| ai (congrArg some f11) <| ai (congrArg some f12) <| ai (f13) <| ai (Eq.refl (tidyOf f14)) <| ai (f14) <| h) (.i (.s (.s (.a) (.b true (.a))) (.s (.k (.s (.s (.d [] [.a, .a, .a, .a, .a, .e (rOf f2), .a, .a, .a, .a] [] [.a, .v (vOf f4) (.a)]) (.c (.s (.r [.a, .a, .a, .a, .a, .a, .a, .x 2 (vOf f8) (.x 3 (vOf f7) (.q))]) (.a)))) (.s (.d [] [.a, .a, .e (rOf f2), .a, .a, .a, .a] [] []) (.b true (.r [.a, .a, .a, .e (rOf f2), .a, .a, .x 4 (vOf f12) (.x 5 (vOf f11) (.q))]))))) (.r [.a, .v (vOf f13) (.a)]))) (.h [] (eOf f14) (stOf f14) (rOf f14))) (by kernel_rfl)
theorem pw_endR (n fu : Nat) (m : ML) (hm : m.length ≤ 100000) (o : ML) (ho : o.length ≤ 100000) (ho2 : 0 < o.length) (a : Int) (b : List Int) (i : Int) (hi : (m.length : Int) ≤ i) :
  loopAt prog Ck (n + 40) 51 0 0 (fu + 1) (puE m (.sl 2 1 0 o.length none) false i) (puS a false (.isl 1 (bys b)) o) = some (.exit 0, puX m (.sl 2 1 0 o.length none) false i, (puS a false (.isl 1 (bys b)) o)) := by
 have f1 : decide (i < ((cellsR m).length : Int)) = false := by simp; omega
 exact dlp (fun h => ai (congrArg LV.bool f1) <| h) (.i (.s (.s (.a) (.b false (.a))) .a) (.a)) (by kernel_rfl)
theorem pf_keepR (n fu : Nat) (m : ML) (hm : m.length ≤ 100000) (o : ML) (ho : o.length ≤ 100000) (ho2 : 0 < o.length) (a : Int) (i : Int) (h0 : 0 ≤ i) (hi : i < (m.length : Int)) (c : Int) (v : List Int) (hx : (cellsR m)[i.toNat]? = some (.agg [.int .i64 c, .isl 1 (bys v)])) (hc : ¬ c = a) (r : LX × LEnv × St)
  (hr : loopAt prog Ck (n + 40) 51 0 0 fu (puE m (.sl 2 1 0 (o.length + 1) none) true (i + 1)) (puS a true .nils (o ++ [(c, v)])) = some r) : loopAt prog Ck (n + 40) 51 0 0 (fu + 1) (puE m (.sl 2 1 0 o.length none) true i) (puS a true .nils o) = some r := by
 have f1 : decide (i < ((cellsR m).length : Int)) = true := by simp; omega
 have f2 : (cellsR m)[i.toNat]? = some (LV.agg [.int i64 c, .isl 1 (bys v)]) := hx
 have f3 : 0 ≤ i ∧ i < ((cellsR m).length : Int) := by simp; omega
 have f4 : (!decide (c = a)) = true := by simp; omega
 have f5 : 1 ≤ 1 := by omega
 have f6 : List.length (cellsR o) = List.length o ∧ (List.length o + 1) * 32 ≤ 140737488355328 := by simp; omega
 have f7 : LObj.row 58 2 (cellsR o ++ List.take 1 (List.drop 0 (List.set [.agg [.int i64 0, .nils]] 0 (LV.agg [.int i64 c, .isl 1 (bys v)])))) = LObj.row 58 2 (cellsR (o ++ [(c, v)])) := by simp
 have f8 : LObj.row 58 2 (List.set [.agg [.int i64 0, .nils]] 0 (LV.agg [.int i64 c, .isl 1 (bys v)])) = LObj.row 58 2 [.agg [.int i64 c, .isl 1 (bys v)]] := by simp
 have f9 : LV.int i64 (IntKind.wrap i64 (i + 1)) = LV.int i64 (i + 1) := by simp (disch := omega)
 have f10 := hr
 exact dlp (fun h => ai (congrArg LV.bool f1) <| ai (f3) <| ai (f2) <| ai (congrArg LV.bool f4) <| ai (f3) <| ai (f2) <| ai (f5) <| ai (f6) <| ai (congrArg some f7) <| ai (congrArg some f8) <| ai (f9) <| ai (Eq.refl (tidyOf f10)) <| ai (f10) <| h) (.i (.s (.s (.a) (.b true (.a))) (.s (.k (.s (.a) (.s (.d [] [.a, .a, .e (rOf f2), .a, .a, .a, .a] [] []) (.b true (.r [.a, .a, .a, .e (rOf f2), .a, .a, .x 2 (vOf f8) (.x 3 (vOf f7) (.q))]))))) (.r [.a, .v (vOf f9) (.a)]))) (.h [] (eOf f10) (stOf f10) (rOf f10))) (by kernel_rfl)
theorem pf_eqR (n fu : Nat) (m : ML) (hm : m.length ≤ 100000) (o : ML) (ho : o.length ≤ 100000) (ho2 : 0 < o.length) (a : Int) (i : Int) (h0 : 0 ≤ i) (hi : i < (m.length : Int)) (c : Int) (v : List Int) (hx : (cellsR m)[i.toNat]? = some (.agg [.int .i64 c, .isl 1 (bys v)])) (hc : c = a) (r : LX × LEnv × St)
  (hr : loopAt prog Ck (n + 40) 51 0 0 fu (puE m (.sl 2 1 0 o.length none) true (i + 1)) (puS a true .nils o) = some r) : loopAt prog Ck (n + 40) 51 0 0 (fu + 1) (puE m (.sl 2 1 0 o.length none) true i) (puS a true .nils o) = some r := by
 have f1 : decide (i < ((cellsR m).length : Int)) = true := by simp; omega
 have f2 : (cellsR m)[i.toNat]? = some (LV.agg [.int i64 c, .isl 1 (bys v)]) := hx
 have f3 : 0 ≤ i ∧ i < ((cellsR m).length : Int) := by simp; omega
 have f4 : LV.irp (LV.agg [.int i64 c, .isl 1 (bys v)]) = LV.irp (LV.agg [.int i64 a, .isl 1 (bys v)]) := by simp; omega
 have f5 : (!decide (a = a)) = false := by simp
 have f6 : LV.int i64 (IntKind.wrap i64 (i + 1)) = LV.int i64 (i + 1) := by simp (disch := omega)
 have f7 := hr
 exact dlp (fun h => ai (congrArg LV.bool f1) <| ai (f3) <| ai (f2) <| ai (f4) <| ai (congrArg LV.bool f5) <| ai (f6) <| ai (Eq.refl (tidyOf f7)) <| ai (f7) <| h) (.i (.s (.s (.a) (.b true (.a))) (.s (.k (.s (.a) (.s (.d [] [.a, .a, .v (vOf f4) (.e (rOf f2)), .a, .a, .a, .a] [] []) (.b false (.a))))) (.r [.a, .v (vOf f6) (.a)]))) (.h [] (eOf f7) (stOf f7) (rOf f7))) (by kernel_rfl)
theorem pf_endR (n fu : Nat) (m : ML) (hm : m.length ≤ 100000) (o : ML) (ho : o.length ≤ 100000) (ho2 : 0 < o.length) (a : Int) (i : Int) (hi : (m.length : Int) ≤ i) :
  loopAt prog Ck (n + 40) 51 0 0 (fu + 1) (puE m (.sl 2 1 0 o.length none) true i) (puS a true .nils o) = some (.exit 0, puX m (.sl 2 1 0 o.length none) true i, (puS a true .nils o)) := by
 have f1 : decide (i < ((cellsR m).length : Int)) = false := by simp; omega
 exact dlp (fun h => ai (congrArg LV.bool f1) <| h) (.i (.s (.s (.a) (.b false (.a))) .a) (.a)) (by kernel_rfl)
theorem pw_rest (n fu : Nat) (m : ML) (hm : m.length ≤ 100000) (o : ML) (ho : o.length ≤ 100000) (ho2 : 0 < o.length) (a : Int) (b : List Int) (i : Int) (h0 : 0 ≤ i) (hi : i < (m.length : Int)) (c : Int) (v : List Int) (hx : (cellsR m)[i.toNat]? = some (.agg [.int .i64 c, .isl 1 (bys v)])) (hc : ¬ c = a) (r : LX × LEnv × St)
  (hr : loopAt prog Ck (n + 40) 51 0 0 fu (puE m (.sl 2 1 0 (o.length + 1) none) true (i + 1)) (puS a false (.isl 1 (bys b)) (o ++ [(c, v)])) = some r) : loopAt prog Ck (n + 40) 51 0 0 (fu + 1) (puE m (.sl 2 1 0 o.length none) true i) (puS a false (.isl 1 (bys b)) o) = some r := by
 have f1 : decide (i < ((cellsR m).length : Int)) = true := by simp; omega
 have f2 : (cellsR m)[i.toNat]? = some (LV.agg [.int i64 c, .isl 1 (bys v)]) := hx
 have f3 : 0 ≤ i ∧ i < ((cellsR m).length : Int) := by simp; omega
 have f4 : (!decide (c = a)) = true := by simp; omega
 have f5 : 1 ≤ 1 := by omega
 have f6 : List.length (cellsR o) = List.length o ∧ (List.length o + 1) * 32 ≤ 140737488355328 := by simp; omega
 have f7 : LObj.row 58 2 (cellsR o ++ List.take 1 (List.drop 0 (List.set [.agg [.int i64 0, .nils]] 0 (LV.agg [.int i64 c, .isl 1 (bys v)])))) = LObj.row 58 2 (cellsR (o ++ [(c, v)])) := by simp
 have f8 : LObj.row 58 2 (List.set [.agg [.int i64 0, .nils]] 0 (LV.agg [.int i64 c, .isl 1 (bys v)])) = LObj.row 58 2 [.agg [.int i64 c, .isl 1 (bys v)]] := by simp
 have f9 : LV.int i64 (IntKind.wrap i64 (i + 1)) = LV.int i64 (i + 1) := by simp (disch := omega)
 have f10 := hr
 exact dlp (fun h => ai (congrArg LV.bool f1) <| ai (f3) <| ai (f2) <| ai (congrArg LV.bool f4) <| ai (f3) <| ai (f2) <| ai (f5) <| ai (f6) <| ai (congrArg some f7) <| ai (congrArg some f8) <| ai (f9) <| ai (Eq.refl (tidyOf f10)) <| ai (f10) <| h) (.i (.s (.s (.a) (.b true (.a))) (.s (.k (.s (.a) (.s (.d [] [.a, .a, .e (rOf f2), .a, .a, .a, .a] [] []) (.b true (.r [.a, .a, .a, .e (rOf f2), .a, .a, .x 2 (vOf f8) (.x 3 (vOf f7) (.q))]))))) (.r [.a, .v (vOf f9) (.a)]))) (.h [] (eOf f10) (stOf f10) (rOf f10))) (by kernel_rfl)
theorem pw_endT (n fu : Nat) (m : ML) (hm : m.length ≤ 100000) (o : ML) (ho : o.length ≤ 100000) (ho2 : 0 < o.length) (a : Int) (b : List Int) (i : Int) (hi : (m.length : Int) ≤ i) :
  loopAt prog Ck (n + 40) 51 0 0 (fu + 1) (puE m (.sl 2 1 0 o.length none) true i) (puS a false (.isl 1 (bys b)) o) = some (.exit 0, puX m (.sl 2 1 0 o.length none) true i, (puS a false (.isl 1 (bys b)) o)) := by
 have f1 : decide (i < ((cellsR m).length : Int)) = false := by simp; omega
 exact dlp (fun h => ai (congrArg LV.bool f1) <| h) (.i (.s (.s (.a) (.b false (.a))) .a) (.a)) (by kernel_rfl)
theorem pw_thruN (n : Nat) (m : ML) (hm : m.length ≤ 100000) (a : Int) (b : List Int) 
  (L : loopAt prog Ck (n + 40) 51 0 0 (n + 40) (puE m .nils false 0) (puN a false (.isl 1 (bys b))) = some (.exit 0, puX m .nils false m.length, (puN a false (.isl 1 (bys b))))) :
  lrun prog Ck (lcall prog Ck (n + 40)) (n + 40) 51 [.isl 2 (cellsR m), .agg [.int .i64 a, .bool false, (.isl 1 (bys b))]] ⟨0, []⟩ = some (.isl 2 (cellsR [(a, b)]), ⟨0, []⟩) := by
 have f1 := L
 exact drn (fun h => ai (Eq.refl (tidyOf f1)) <| ai (f1) <| h) (.s (.a) (.s (.a) (.s (.a) (.s (.s (.a) (.k (.l (.h [] (eOf f1) (stOf f1) (rOf f1))))) (.a))))) [] .a (by kernel_rfl)
theorem pw_thruR (n : Nat) (m : ML) (hm : m.length ≤ 100000) (o : ML) (ho : o.length ≤ 100000) (ho2 : 0 < o.length) (a : Int) (b : List Int) 
  (L : loopAt prog Ck (n + 40) 51 0 0 (n + 40) (puE m .nils false 0) (puN a false (.isl 1 (bys b))) = some (.exit 0, puX m (.sl 2 1 0 o.length none) false m.length, (puS a false (.isl 1 (bys b)) o))) :
  lrun prog Ck (lcall prog Ck (n + 40)) (n + 40) 51 [.isl 2 (cellsR m), .agg [.int .i64 a, .bool false, (.isl 1 (bys b))]] ⟨0, []⟩ = some (.isl 2 (cellsR (o ++ [(a, b)])), ⟨0, []⟩) := by
 have hT : List.take (o.length + 1) (cellsR (o ++ [(a, b)])) = cellsR (o ++ [(a, b)]) := List.take_of_length_le (by simp)
 have f1 := L
 have f2 : 1 ≤ 1 := by omega
 have f3 : List.length (cellsR o) = List.length o ∧ (List.length o + 1) * 32 ≤ 140737488355328 := by simp; omega
 have f4 : LObj.row 58 2 (cellsR o ++ List.take 1 (List.drop 0 (List.set [.agg [.int i64 0, .nils]] 0 (LV.agg [.int i64 a, .isl 1 (bys b)])))) = LObj.row 58 2 (cellsR (o ++ [(a, b)])) := by simp
 have f5 : LObj.row 58 2 (List.set [.agg [.int i64 0, .nils]] 0 (LV.agg [.int i64 a, .isl 1 (bys b)])) = LObj.row 58 2 [.agg [.int i64 a, .isl 1 (bys b)]] := by simp
 have f6 : (if 3 = 3 then if 2 = 2 ∧ 0 + (List.length o + 1) ≤ List.length (cellsR (o ++ [(a, b)])) ∧ capLe (List.length o + 1) none = true then LV.isl 2 (List.take (List.length o + 1) (List.drop 0 (cellsR (o ++ [(a, b)])))) else LV.any else LV.sl 2 3 0 (List.length o + 1) none) = LV.isl 2 (cellsR (o ++ [(a, b)])) := by simp; omega
 exact drn (fun h => ai (Eq.refl (tidyOf f1)) <| ai (f1) <| ai (f2) <| ai (f3) <| ai (congrArg some f4) <| ai (congrArg some f5) <| ai (f6) <| h) (.s (.a) (.s (.a) (.s (.a) (.s (.s (.a) (.k (.l (.h [] (eOf f1) (stOf f1) (rOf f1))))) (.s (.s (.a) (.c (.r [.a, .a, .a, .a, .a, .a, .a, .x 2 (vOf f5) (.x 3 (vOf f4) (.q))]))) (.a)))))) [.y 0 (vOf f6)] .a (by kernel_rfl)
theorem pw_thruT (n : Nat) (m : ML) (hm : m.length ≤ 100000) (o : ML) (ho : o.length ≤ 100000) (ho2 : 0 < o.length) (a : Int) (b : List Int) 
  (L : loopAt prog Ck (n + 40) 51 0 0 (n + 40) (puE m .nils false 0) (puN a false (.isl 1 (bys b))) = some (.exit 0, puX m (.sl 2 1 0 o.length none) true m.length, (puS a false (.isl 1 (bys b)) o))) :
  lrun prog Ck (lcall prog Ck (n + 40)) (n + 40) 51 [.isl 2 (cellsR m), .agg [.int .i64 a, .bool false, (.isl 1 (bys b))]] ⟨0, []⟩ = some (.isl 2 (cellsR o), ⟨0, []⟩) := by
 have hT : List.take o.length (cellsR o) = cellsR o := List.take_of_length_le (by simp)
 have f1 := L
 have f2 : (if 1 = 1 then if 2 = 2 ∧ 0 + List.length o ≤ List.length (cellsR o) ∧ capLe (List.length o) none = true then LV.isl 2 (List.take (List.length o) (List.drop 0 (cellsR o))) else LV.any else LV.sl 2 1 0 (List.length o) none) = LV.isl 2 (cellsR o) := by simp; omega
 exact drn (fun h => ai (Eq.refl (tidyOf f1)) <| ai (f1) <| ai (f2) <| h) (.s (.a) (.s (.a) (.s (.a) (.s (.s (.a) (.k (.l (.h [] (eOf f1) (stOf f1) (rOf f1))))) (.a))))) [.y 0 (vOf f2)] .a (by kernel_rfl)
theorem pf_thruN (n : Nat) (m : ML) (hm : m.length ≤ 100000) (a : Int) 
  (L : loopAt prog Ck (n + 40) 51 0 0 (n + 40) (puE m .nils true 0) (puN a true .nils) = some (.exit 0, puX m .nils true m.length, (puN a true .nils))) :
  lrun prog Ck (lcall prog Ck (n + 40)) (n + 40) 51 [.isl 2 (cellsR m), .agg [.int .i64 a, .bool true, .nils]] ⟨0, []⟩ = some (.isl 2 [], ⟨0, []⟩) := by
 have f1 := L
 exact drn (fun h => ai (Eq.refl (tidyOf f1)) <| ai (f1) <| h) (.s (.a) (.s (.a) (.s (.a) (.s (.s (.a) (.k (.l (.h [] (eOf f1) (stOf f1) (rOf f1))))) (.a))))) [] .a (by kernel_rfl)
theorem pf_thruR (n : Nat) (m : ML) (hm : m.length ≤ 100000) (o : ML) (ho : o.length ≤ 100000) (ho2 : 0 < o.length) (a : Int) 
  (L : loopAt prog Ck (n + 40) 51 0 0 (n + 40) (puE m .nils true 0) (puN a true .nils) = some (.exit 0, puX m (.sl 2 1 0 o.length none) true m.length, (puS a true .nils o))) :
  lrun prog Ck (lcall prog Ck (n + 40)) (n + 40) 51 [.isl 2 (cellsR m), .agg [.int .i64 a, .bool true, .nils]] ⟨0, []⟩ = some (.isl 2 (cellsR o), ⟨0, []⟩) := by
 have hT : List.take o.length (cellsR o) = cellsR o := List.take_of_length_le (by simp)
 have f1 := L
 have f2 : (if 1 = 1 then if 2 = 2 ∧ 0 + List.length o ≤ List.length (cellsR o) ∧ capLe (List.length o) none = true then LV.isl 2 (List.take (List.length o) (List.drop 0 (cellsR o))) else LV.any else LV.sl 2 1 0 (List.length o) none) = LV.isl 2 (cellsR o) := by simp; omega
 exact drn (fun h => ai (Eq.refl (tidyOf f1)) <| ai (f1) <| ai (f2) <| h) (.s (.a) (.s (.a) (.s (.a) (.s (.s (.a) (.k (.l (.h [] (eOf f1) (stOf f1) (rOf f1))))) (.a))))) [.y 0 (vOf f2)] .a (by kernel_rfl)
abbrev rS2 (rm : Int) (m : ML) (p : PL) : St := ⟨1, [(0, LObj.box 35 [.int i64 rm, .isl 2 (cellsR m), .isl 3 (loosR p)])]⟩
abbrev reE (a i : Int) : LEnv := [.any, .int i64 a, .ptr 0 0, .any, .any, .any, .int i64 i, .any, .any, .any, .any, .any, .any, .any, .any, .any, .any, .any, .any, .any, .any, .any, .any, .any, .any, .any, .any, .any, .any, .any, .any, .any, .any, .any, .any, .any, .any, .any, .any, .any, .any, .any, .any, .any]
abbrev reH (p : PL) (a i : Int) (b : List Int) (v : Bool) : LEnv := [.any, .int i64 a, .ptr 0 0, .any, .isl 1 (bys (blk b)), .int i64 0, .int i64 i, .any, .any, .any, .any, .any, .any, .any, .any, .any, .int i64 i, .bool (decide (0 ≤ i)), .any, .any, .ptr 0 2, .isl 3 (loosR p), .int i64 i, (LV.agg [.int i64 a, .bool v, .isl 1 (bys b)]).irp, (LV.int i64 a).irp, .int i64 a, .int i64 a, .bool (decide (a = a)), .ptr 0 2, .isl 3 (loosR p), .int i64 i, (LV.agg [.int i64 a, .bool v, .isl 1 (bys b)]).irp, (LV.isl 1 (bys b)).irp, .isl 1 (bys b), .isl 1 (bys (blk b)), .any, .any, .any, .any, .any, .any, .any, .any, .any]
abbrev reN (p : PL) (a i : Int) (v : Bool) : LEnv := [.any, .int i64 a, .ptr 0 0, .any, .isl 1 (List.take 64 (List.drop 0 (List.replicate 64 (LV.int IntKind.u8 0)))), .int i64 0, .int i64 i, .any, .any, .any, .any, .any, .any, .any, .any, .any, .int i64 i, .bool (decide (0 ≤ i)), .any, .any, .ptr 0 2, .isl 3 (loosR p), .int i64 i, (LV.agg [.int i64 a, .bool v, .nils]).irp, (LV.int i64 a).irp, .int i64 a, .int i64 a, .bool (decide (a = a)), .ptr 0 2, .isl 3 (loosR p), .int i64 i, (LV.agg [.int i64 a, .bool v, .nils]).irp, LV.nils.irp, .nils, .isl 1 (List.take 64 (List.drop 0 (List.replicate 64 (LV.int IntKind.u8 0)))), .any, .any, .any, .any, .any, .any, .any, .any, .any]
abbrev reX (a : Int) : LEnv := [.any, .int i64 a, .ptr 0 0, .any, .any, .any, .int i64 (-1), .any, .any, .any, .any, .any, .any, .any, .any, .any, .int i64 (-1), .bool false, .any, .any, .any, .any, .any, .any, .any, .any, .any, .any, .any, .any, .any, .any, .any, .any, .any, .any, .any, .any, .any, .any, .any, .any, .any, .any]
theorem re_step (n fu : Nat) (rm : Int) (m : ML) (p : PL) (hp : p.length ≤ 1000) (a i : Int) (h0 : 0 ≤ i) (hi : i < (p.length : Int)) (c : Int) (v : Bool) (w : LV) (hx : (loosR p)[i.toNat]? = some (.agg [.int .i64 c, .bool v, w])) (hne : ¬ c = a) (r : LX × LEnv × St)
  (hr : loopAt prog C0 (n + 40) 29 0 0 fu (reE a (i - 1)) (rS2 rm m p) = some r) : loopAt prog C0 (n + 40) 29 0 0 (fu + 1) (reE a i) (rS2 rm m p) = some r := by
 have f1 : decide (0 ≤ i) = true := by simp; omega
 have f2 : (loosR p)[i.toNat]? = some (LV.agg [.int i64 c, .bool v, w]) := hx
 have f3 : 0 ≤ i ∧ i < ((loosR p).length : Int) := by simp; omega
 have f4 : decide (c = a) = false := by simp; omega
 have f5 : LV.int i64 (IntKind.wrap i64 (i - 1)) = LV.int i64 (i - 1) := by simp (disch := omega)
 have f6 := hr
 exact dlp (fun h => ai (congrArg LV.bool f1) <| ai (f3) <| ai (f2) <| ai (congrArg LV.bool f4) <| ai (f5) <| ai (Eq.refl (tidyOf f6)) <| ai (f6) <| h) (.i (.s (.s (.a) (.b true (.a))) (.s (.k (.s (.r [.a, .a, .a, .e (rOf f2)]) (.b false (.a)))) (.r [.a, .v (vOf f5) (.a)]))) (.h [] (eOf f6) (stOf f6) (rOf f6))) (by kernel_rfl)
theorem re_hitS (n fu : Nat) (rm : Int) (m : ML) (p : PL) (hp : p.length ≤ 1000) (a i : Int) (h0 : 0 ≤ i) (hi : i < (p.length : Int)) (b : List Int) (hb : b.length ≤ 64) (v : Bool) (hx : (loosR p)[i.toNat]? = some (.agg [.int .i64 a, .bool v, .isl 1 (bys b)])) (hn : 100 < n) :
  loopAt prog C0 (n + 40) 29 0 0 (fu + 1) (reE a i) (rS2 rm m p) = some (.ret, reH p a i b v, rS2 rm m p) := by
 have f1 : decide (0 ≤ i) = true := by simp; omega
 have f2 : (loosR p)[i.toNat]? = some (LV.agg [.int i64 a, .bool v, .isl 1 (bys b)]) := hx
 have f3 : 0 ≤ i ∧ i < ((loosR p).length : Int) := by simp; omega
 have f4 : decide (a = a) = true := by simp
 have f5 := pad_ok (n + 19) b hb (by omega)
 exact dlp (fun h => ai (congrArg LV.bool f1) <| ai (f3) <| ai (f2) <| ai (congrArg LV.bool f4) <| ai (f3) <| ai (f2) <| ai (f5) <| h) (.i (.s (.s (.a) (.b true (.a))) (.s (.k (.s (.r [.a, .a, .a, .e (rOf f2)]) (.b true (.s (.r [.a, .a, .a, .e (rOf f2), .a, .a, .f (rOf f5)]) (.a))))) .a)) (.a)) (by kernel_rfl)
theorem re_hitN (n fu : Nat) (rm : Int) (m : ML) (p : PL) (hp : p.length ≤ 1000) (a i : Int) (h0 : 0 ≤ i) (hi : i < (p.length : Int)) (v : Bool) (hx : (loosR p)[i.toNat]? = some (.agg [.int .i64 a, .bool v, .nils])) (hn : 100 < n) :
  loopAt prog C0 (n + 40) 29 0 0 (fu + 1) (reE a i) (rS2 rm m p) = some (.ret, reN p a i v, rS2 rm m p) := by
 have f1 : decide (0 ≤ i) = true := by simp; omega
 have f2 : (loosR p)[i.toNat]? = some (LV.agg [.int i64 a, .bool v, .nils]) := hx
 have f3 : 0 ≤ i ∧ i < ((loosR p).length : Int) := by simp; omega
 have f4 : decide (a = a) = true := by simp
 exact dlp (fun h => ai (congrArg LV.bool f1) <| ai (f3) <| ai (f2) <| ai (congrArg LV.bool f4) <| ai (f3) <| ai (f2) <| h) (.i (.s (.s (.a) (.b true (.a))) (.s (.k (.s (.r [.a, .a, .a, .e (rOf f2)]) (.b true (.s (.r [.a, .a, .a, .e (rOf f2)]) (.a))))) .a)) (.a)) (by kernel_rfl)
theorem re_end (n fu : Nat) (rm : Int) (m : ML) (p : PL) (hp : p.length ≤ 1000) (a : Int) :
  loopAt prog C0 (n + 40) 29 0 0 (fu + 1) (reE a (-1)) (rS2 rm m p) = some (.exit 0, reX a, rS2 rm m p) := by
 exact dlp (fun h => h) (.a) (by kernel_rfl)
abbrev ceE2 (m k : ML) (i : Int) : LEnv := [.isl 2 (cellsR m), .isl 2 (cellsR k), .any, .any, .any, .int i64 i, .any, .any, .any, .any, .any, .any, .any, .any, .any, .any, .any, .any, .any, .any, .any, .any, .any, .any, .any, .any, .any, .any, .any, .any, .any, .any, .any, .any, .any, .any, .any, .any, .any, .any, .any, .any]
abbrev ceX2 (m k : ML) (i : Int) : LEnv := [.isl 2 (cellsR m), .isl 2 (cellsR k), .any, .any, .any, .int i64 i, .any, .any, .any, .any, .any, .int i64 i, .isl 2 (cellsR m), .int i64 ((cellsR m).length : Int), .bool (decide (i < ((cellsR m).length : Int))), .any, .any, .any, .any, .any, .any, .any, .any, .any, .any, .any, .any, .any, .any, .any, .any, .any, .any, .any, .any, .any, .any, .any, .any, .any, .any, .any]
theorem ce_step (n fu : Nat) (m k : ML) (hm : m.length ≤ 1000000) (hk : k.length = m.length) (i : Int) (h0 : 0 ≤ i) (hi : i < (m.length : Int)) (a : Int) (b : List Int) (hx : (cellsR m)[i.toNat]? = some (.agg [.int .i64 a, .isl 1 (bys b)])) (hy : (cellsR k)[i.toNat]? = some (.agg [.int .i64 a, .isl 1 (bys b)])) (hn : 100 < n)
  (S : ∀ j, 100 < j + 20 → lrun prog C0 (lcall prog C0 (j + 20)) (j + 20) 21 [.isl 1 (bys b), .isl 1 (bys b)] ⟨0, []⟩ = some (.bool true, ⟨0, []⟩)) (r : LX × LEnv × St)
  (hr : loopAt prog C0 (n + 40) 11 0 0 fu (ceE2 m k (i + 1)) ⟨0, []⟩ = some r) : loopAt prog C0 (n + 40) 11 0 0 (fu + 1) (ceE2 m k i) ⟨0, []⟩ = some r := by
 have f1 : decide (i < ((cellsR m).length : Int)) = true := by simp; omega
 have f2 : (cellsR m)[i.toNat]? = some (LV.agg [.int i64 a, .isl 1 (bys b)]) := hx
 have f3 : 0 ≤ i ∧ i < ((cellsR m).length : Int) := by simp; omega
 have f4 : (cellsR k)[i.toNat]? = some (LV.agg [.int i64 a, .isl 1 (bys b)]) := hy
 have f5 : 0 ≤ i ∧ i < ((cellsR k).length : Int) := by simp; omega
 have f6 : (!decide (a = a)) = false := by simp
 have f7 := S (n + 19) (by omega)
 have f8 : LV.bool (if (!decide (a = a)) = true then true else false) = LV.bool false := by simp
 have f9 : LV.int i64 (IntKind.wrap i64 (i + 1)) = LV.int i64 (i + 1) := by simp (disch := omega)
 have f10 := hr
 exact dlp (fun h => ai (congrArg LV.bool f1) <| ai (f3) <| ai (f2) <| ai (f5) <| ai (f4) <| ai (congrArg some f6) <| ai (congrArg some f6) <| ai (congrArg some f6) <| ai (f3) <| ai (f2) <| ai (congrArg some f6) <| ai (congrArg some f6) <| ai (congrArg some f6) <| ai (congrArg some f6) <| ai (congrArg some f6) <| ai (f5) <| ai (f4) <| ai (congrArg some f6) <| ai (congrArg some f6) <| ai (congrArg some f6) <| ai (f7) <| ai (congrArg some f6) <| ai (f8) <| ai (f9) <| ai (Eq.refl (tidyOf f10)) <| ai (f10) <| h) (.i (.s (.s (.a) (.b true (.a))) (.s (.k (.s (.d [] [.a, .a, .e (rOf f2), .a, .a, .a, .a, .e (rOf f4), .a, .a, .a, .a, .g false (.a), .g false (.a), .g false (.e (rOf f2)), .g false (.a), .g false (.a), .g false (.a), .g false (.a), .g false (.e (rOf f4)), .g false (.a), .g false (.a)] [] [.g false (.f (rOf f7)), .g false (.a), .v (vOf f8) (.a)]) (.a))) (.r [.a, .v (vOf f9) (.a)]))) (.h [] (eOf f10) (stOf f10) (rOf f10))) (by kernel_rfl)
theorem ce_end (n fu : Nat) (m k : ML) (hm : m.length ≤ 1000000) (hk : k.length = m.length) (i : Int) (hi : (m.length : Int) ≤ i) :
  loopAt prog C0 (n + 40) 11 0 0 (fu + 1) (ceE2 m k i) ⟨0, []⟩ = some (.exit 0, ceX2 m k i, ⟨0, []⟩) := by
 have f1 : decide (i < ((cellsR m).length : Int)) = false := by simp; omega
 exact dlp (fun h => ai (congrArg LV.bool f1) <| h) (.i (.s (.s (.a) (.b false (.a))) .a) (.a)) (by kernel_rfl)
abbrev usE (u i : Int) : LEnv := [.any, .ptr 0 0, .any, .int i64 u, .int i64 i, .any, .any, .any, .any, .any, .any, .any, .any, .any, .any, .any, .any, .any, .any, .any, .any, .any, .any, .any, .any, .any, .any, .any, .any, .any, .any, .any, .any, .any, .any, .any, .any, .any, .any, .any, .any, .any, .any, .any, .any, .any, .any, .any, .any, .any, .any, .any, .any, .any, .any, .any, .any, .any, .any, .any, .any, .any, .any, .any, .any]
theorem us_free (n fu : Nat) (rm : Int) (m : ML) (p : PL) (hp : p.length ≤ 1000) (hm : m.length ≤ 1000000) (u i : Int) (h0 : 0 ≤ i) (hi : i < (p.length : Int)) (a : Int) (w : List Int) (e : Bool) (hx : (loosR p)[i.toNat]? = some (.agg [.int .i64 a, .bool true, .nils]))
  (Fd : ∀ j, 100 < j + 20 → lrun prog C0 (lcall prog C0 (j + 20)) (j + 20) 37 [.isl 2 (cellsR m), .int .i64 a] ⟨0, []⟩ = some (.tup [.isl 1 (bys w), .bool e], ⟨0, []⟩)) (hn : 100 < n) (r : LX × LEnv × St)
  (hr : loopAt prog C0 (n + 40) 15 0 0 fu (usE u (i + 1)) (rS rm m p) = some r) : loopAt prog C0 (n + 40) 15 0 0 (fu + 1) (usE u i) (rS rm m p) = some r := by
 have f1 : decide (i < ((loosR p).length : Int)) = true := by simp; omega
 have f2 : (loosR p)[i.toNat]? = some (LV.agg [.int i64 a, .bool true, .nils]) := hx
 have f3 : 0 ≤ i ∧ i < ((loosR p).length : Int) := by simp; omega
 have f4 := Fd (n + 19) (by omega)
 have f5 : LV.int i64 (IntKind.wrap i64 (i + 1)) = LV.int i64 (i + 1) := by simp (disch := omega)
 have f6 := hr
 exact dlp (fun h => ai (congrArg LV.bool f1) <| ai (f3) <| ai (f2) <| ai (f4) <| ai (f5) <| ai (Eq.refl (tidyOf f6)) <| ai (f6) <| h) (.i (.s (.s (.a) (.b true (.a))) (.s (.k (.s (.r [.a, .a, .a, .e (rOf f2)]) (.s (.r [.a, .a, .a, .a, .f (rOf f4)]) (.a)))) (.r [.a, .v (vOf f5) (.a)]))) (.h [] (eOf f6) (stOf f6) (rOf f6))) (by kernel_rfl)
theorem us_there (n fu : Nat) (rm : Int) (m : ML) (p : PL) (hp : p.length ≤ 1000) (hm : m.length ≤ 1000000) (u i : Int) (h0 : 0 ≤ i) (hi : i < (p.length : Int)) (a : Int) (b w : List Int) (hx : (loosR p)[i.toNat]? = some (.agg [.int .i64 a, .bool false, .isl 1 (bys b)]))
  (Fd : ∀ j, 100 < j + 20 → lrun prog C0 (lcall prog C0 (j + 20)) (j + 20) 37 [.isl 2 (cellsR m), .int .i64 a] ⟨0, []⟩ = some (.tup [.isl 1 (bys w), .bool true], ⟨0, []⟩)) (hn : 100 < n) (r : LX × LEnv × St)
  (hr : loopAt prog C0 (n + 40) 15 0 0 fu (usE u (i + 1)) (rS rm m p) = some r) : loopAt prog C0 (n + 40) 15 0 0 (fu + 1) (usE u i) (rS rm m p) = some r := by
 have f1 : decide (i < ((loosR p).length : Int)) = true := by simp; omega
 have f2 : (loosR p)[i.toNat]? = some (LV.agg [.int i64 a, .bool false, .isl 1 (bys b)]) := hx
 have f3 : 0 ≤ i ∧ i < ((loosR p).length : Int) := by simp; omega
 have f4 := Fd (n + 19) (by omega)
 have f5 : LV.int i64 (IntKind.wrap i64 (i + 1)) = LV.int i64 (i + 1) := by simp (disch := omega)
 have f6 := hr
 exact dlp (fun h => ai (congrArg LV.bool f1) <| ai (f3) <| ai (f2) <| ai (f4) <| ai (f5) <| ai (Eq.refl (tidyOf f6)) <| ai (f6) <| h) (.i (.s (.s (.a) (.b true (.a))) (.s (.k (.s (.r [.a, .a, .a, .e (rOf f2)]) (.s (.r [.a, .a, .a, .a, .f (rOf f4)]) (.a)))) (.r [.a, .v (vOf f5) (.a)]))) (.h [] (eOf f6) (stOf f6) (rOf f6))) (by kernel_rfl)
abbrev uiS (rm : Int) (m : ML) (p : PL) (a : Int) (b : List Int) : St := ⟨2, [(0, LObj.box 35 [.int i64 rm, .isl 2 (cellsR m), .isl 3 (loosR p)]), (1, LObj.box 82 [.int i64 a, .bool false, .isl 1 (bys b)])]⟩
abbrev uiE (u i : Int) (f : Bool) (k : Int) : LEnv := [.any, .ptr 0 0, .any, .int i64 u, .int i64 i, .ptr 1 0, .any, .any, .bool f, .int i64 k, .any, .any, .any, .any, .any, .any, .any, .any, .any, .any, .any, .any, .any, .any, .any, .any, .any, .any, .any, .any, .any, .any, .any, .any, .any, .any, .any, .any, .any, .any, .any, .any, .any, .any, .any, .any, .any, .any, .any, .any, .any, .any, .any, .any, .any, .any, .any, .any, .any, .any, .any, .any, .any, .any, .any]
abbrev uiX (u i : Int) (f : Bool) (k : Int) : LEnv := [.any, .ptr 0 0, .any, .int i64 u, .int i64 i, .ptr 1 0, .any, .any, .bool f, .int i64 k, .any, .any, .any, .any, .any, .any, .any, .any, .any, .any, .any, .any, .any, .any, .any, .any, .any, .any, .any, .any, .any, .any, .any, .any, .any, .any, .any, .any, .int i64 k, .int i64 i, .bool (decide (k < i)), .any, .any, .any, .any, .any, .any, .any, .any, .any, .any, .any, .any, .any, .any, .any, .any, .any, .any, .any, .any, .any, .any, .any, .any]
theorem ui_hit (n fu : Nat) (rm : Int) (m : ML) (p : PL) (hp : p.length ≤ 1000) (hm : m.length ≤ 1000000) (u i : Int) (hi : i < (p.length : Int)) (a : Int) (b : List Int) (f : Bool) (k : Int) (h0 : 0 ≤ k) (hk : k < i) (w : LV) (hx : (loosR p)[k.toNat]? = some (.agg [.int .i64 a, .bool false, w])) (r : LX × LEnv × St)
  (hr : loopAt prog C0 (n + 40) 15 1 0 fu (uiE u i false (k + 1)) (uiS rm m p a b) = some r) : loopAt prog C0 (n + 40) 15 1 0 (fu + 1) (uiE u i f k) (uiS rm m p a b) = some r := by
 have f1 : decide (k < i) = true := by simp; omega
 have f2 : (loosR p)[k.toNat]? = some (LV.agg [.int i64 a, .bool false, w]) := hx
 have f3 : 0 ≤ k ∧ k < ((loosR p).length : Int) := by simp; omega
 have f4 : decide (a = a) = true := by simp
 have f5 : LV.bool (if decide (a = a) = true then true else false) = LV.bool true := by simp
 have f6 : LV.int i64 (IntKind.wrap i64 (k + 1)) = LV.int i64 (k + 1) := by simp (disch := omega)
 have f7 := hr
 exact dlp (fun h => ai (congrArg LV.bool f1) <| ai (f3) <| ai (f2) <| ai (congrArg some f4) <| ai (congrArg some f4) <| ai (congrArg some f4) <| ai (congrArg some f4) <| ai (f3) <| ai (f2) <| ai (congrArg some f4) <| ai (congrArg some f4) <| ai (congrArg some f4) <| ai (f5) <| ai (f6) <| ai (Eq.refl (tidyOf f7)) <| ai (f7) <| h) (.i (.s (.s (.a) (.b true (.a))) (.s (.k (.s (.d [] [.a, .a, .a, .e (rOf f2), .a, .a, .a, .a, .a, .a, .g true (.a), .g true (.a), .g true (.a)] [] [.g true (.e (rOf f2)), .g true (.a), .g true (.a), .g true (.a), .v (vOf f5) (.a)]) (.a))) (.r [.a, .v (vOf f6) (.a)]))) (.h [] (eOf f7) (stOf f7) (rOf f7))) (by kernel_rfl)
theorem ui_free (n fu : Nat) (rm : Int) (m : ML) (p : PL) (hp : p.length ≤ 1000) (hm : m.length ≤ 1000000) (u i : Int) (hi : i < (p.length : Int)) (a : Int) (b : List Int) (f : Bool) (k : Int) (h0 : 0 ≤ k) (hk : k < i) (w : LV) (hx : (loosR p)[k.toNat]? = some (.agg [.int .i64 a, .bool true, w])) (r : LX × LEnv × St)
  (hr : loopAt prog C0 (n + 40) 15 1 0 fu (uiE u i f (k + 1)) (uiS rm m p a b) = some r) : loopAt prog C0 (n + 40) 15 1 0 (fu + 1) (uiE u i f k) (uiS rm m p a b) = some r := by
 have f1 : decide (k < i) = true := by simp; omega
 have f2 : (loosR p)[k.toNat]? = some (LV.agg [.int i64 a, .bool true, w]) := hx
 have f3 : 0 ≤ k ∧ k < ((loosR p).length : Int) := by simp; omega
 have f4 : decide (a = a) = true := by simp
 have f5 : LV.bool (if decide (a = a) = true then false else false) = LV.bool false := by simp
 have f6 : LV.int i64 (IntKind.wrap i64 (k + 1)) = LV.int i64 (k + 1) := by simp (disch := omega)
 have f7 := hr
 exact dlp (fun h => ai (congrArg LV.bool f1) <| ai (f3) <| ai (f2) <| ai (congrArg some f4) <| ai (congrArg some f4) <| ai (congrArg some f4) <| ai (congrArg some f4) <| ai (f3) <| ai (f2) <| ai (congrArg some f4) <| ai (congrArg some f4) <| ai (congrArg some f4) <| ai (f5) <| ai (f6) <| ai (Eq.refl (tidyOf f7)) <| ai (f7) <| h) (.i (.s (.s (.a) (.b true (.a))) (.s (.k (.s (.d [] [.a, .a, .a, .e (rOf f2), .a, .a, .a, .a, .a, .a, .g true (.a), .g true (.a), .g true (.a)] [] [.g true (.e (rOf f2)), .g true (.a), .g true (.a), .g true (.a), .v (vOf f5) (.a)]) (.a))) (.r [.a, .v (vOf f6) (.a)]))) (.h [] (eOf f7) (stOf f7) (rOf f7))) (by kernel_rfl)
theorem ui_miss (n fu : Nat) (rm : Int) (m : ML) (p : PL) (hp : p.length ≤ 1000) (hm : m.length ≤ 1000000) (u i : Int) (hi : i < (p.length : Int)) (a : Int) (b : List Int) (f : Bool) (k : Int) (h0 : 0 ≤ k) (hk : k < i) (c : Int) (hc : ¬ c = a) (v : Bool) (w : LV) (hx : (loosR p)[k.toNat]? = some (.agg [.int .i64 c, .bool v, w])) (r : LX × LEnv × St)
  (hr : loopAt prog C0 (n + 40) 15 1 0 fu (uiE u i f (k + 1)) (uiS rm m p a b) = some r) : loopAt prog C0 (n + 40) 15 1 0 (fu + 1) (uiE u i f k) (uiS rm m p a b) = some r := by
 have f1 : decide (k < i) = true := by simp; omega
 have f2 : (loosR p)[k.toNat]? = some (LV.agg [.int i64 c, .bool v, w]) := hx
 have f3 : 0 ≤ k ∧ k < ((loosR p).length : Int) := by simp; omega
 have f4 : decide (c = a) = false := by simp; omega
 have f5 : lpick (decide (c = a)) LV.any (LV.bool false) = some (LV.bool false) := by simp; omega
 have f6 : LV.int i64 (IntKind.wrap i64 (k + 1)) = LV.int i64 (k + 1) := by simp (disch := omega)
 have f7 := hr
 exact dlp (fun h => ai (congrArg LV.bool f1) <| ai (f3) <| ai (f2) <| ai (congrArg some f4) <| ai (congrArg some f4) <| ai (congrArg some f4) <| ai (congrArg some f4) <| ai (congrArg some f4) <| ai (congrArg some f4) <| ai (congrArg some f4) <| ai (x_map (st := (St.mk 2 [(0, LObj.box 35 [.int i64 rm, .isl 2 (cellsR m), .isl 3 (loosR p)]), (1, LObj.box 82 [.int i64 a, .bool false, .isl 1 (bys b)])])) f5) <| ai (f6) <| ai (Eq.refl (tidyOf f7)) <| ai (f7) <| h) (.i (.s (.s (.a) (.b true (.a))) (.s (.k (.s (.d [] [.a, .a, .a, .e (rOf f2), .a, .a, .a, .a, .a, .a, .g false (.a), .g false (.a), .g false (.a)] [] [.g false (.a), .g false (.a), .g false (.a), .g false (.a), .t (rOf (x_map (st := (St.mk 2 [(0, LObj.box 35 [.int i64 rm, .isl 2 (cellsR m), .isl 3 (loosR p)]), (1, LObj.box 82 [.int i64 a, .bool false, .isl 1 (bys b)])])) f5))]) (.a))) (.r [.a, .v (vOf f6) (.a)]))) (.h [] (eOf f7) (stOf f7) (rOf f7))) (by kernel_rfl)
theorem ui_end (n fu : Nat) (rm : Int) (m : ML) (p : PL) (hp : p.length ≤ 1000) (hm : m.length ≤ 1000000) (u i : Int) (hi : i < (p.length : Int)) (a : Int) (b : List Int) (f : Bool) (k : Int) (hk : i ≤ k) :
  loopAt prog C0 (n + 40) 15 1 0 (fu + 1) (uiE u i f k) (uiS rm m p a b) = some (.exit 2, uiX u i f k, uiS rm m p a b) := by
 have f1 : decide (k < i) = false := by simp; omega
 exact dlp (fun h => ai (congrArg LV.bool f1) <| h) (.i (.s (.s (.a) (.b false (.a))) .a) (.a)) (by kernel_rfl)
abbrev usX (rm : Int) (m : ML) (p : PL) (u i : Int) : LEnv := [.any, .ptr 0 0, .any, .int i64 u, .int i64 i, .any, .any, .any, .any, .any, .any, .any, .any, .int i64 i, .ptr 0 2, .isl 3 (loosR p), .int i64 ((loosR p).length : Int), .bool (decide (i < ((loosR p).length : Int))), .any, .any, .any, .any, .any, .any, .any, .any, .any, .any, .any, .any, .any, .any, .any, .any, .any, .any, .any, .any, .any, .any, .any, .any, .any, .any, .any, .any, .any, .any, .any, .any, .any, .any, .any, .any, .any, .any, .any, .any, .any, .any, .any, .any, .any, .any, .any]
theorem us_end (n fu : Nat) (rm : Int) (m : ML) (p : PL) (hp : p.length ≤ 1000) (hm : m.length ≤ 1000000) (u i : Int) (hi : (p.length : Int) ≤ i) :
  loopAt prog C0 (n + 40) 15 0 0 (fu + 1) (usE u i) (rS rm m p) = some (.exit 0, usX rm m p u i, rS rm m p) := by
 have f1 : decide (i < ((loosR p).length : Int)) = false := by simp; omega
 exact dlp (fun h => ai (congrArg LV.bool f1) <| h) (.i (.s (.s (.a) (.b false (.a))) .a) (.a)) (by kernel_rfl)
theorem us_new (n fu : Nat) (rm : Int) (m : ML) (p : PL) (hp : p.length ≤ 1000) (hm : m.length ≤ 1000000) (u i : Int) (hu : 0 ≤ u) (hu2 : u ≤ 10000000) (h0 : 0 ≤ i) (hi : i < (p.length : Int)) (a : Int) (b w : List Int) (hx : (loosR p)[i.toNat]? = some (.agg [.int .i64 a, .bool false, .isl 1 (bys b)]))
  (Fd : ∀ j, 100 < j + 20 → lrun prog C0 (lcall prog C0 (j + 20)) (j + 20) 37 [.isl 2 (cellsR m), .int .i64 a] ⟨0, []⟩ = some (.tup [.isl 1 (bys w), .bool false], ⟨0, []⟩)) (hn : 100 < n)
  (I : loopAt prog C0 (n + 40) 15 1 0 (n + 40) (uiE u i true 0) (uiS rm m p a b) = some (.exit 2, uiX u i true i, uiS rm m p a b)) (r : LX × LEnv × St)
  (hr : loopAt prog C0 (n + 40) 15 0 0 fu (usE (u + 1) (i + 1)) (rS rm m p) = some r) : loopAt prog C0 (n + 40) 15 0 0 (fu + 1) (usE u i) (rS rm m p) = some r := by
 have f1 : decide (i < ((loosR p).length : Int)) = true := by simp; omega
 have f2 : (loosR p)[i.toNat]? = some (LV.agg [.int i64 a, .bool false, .isl 1 (bys b)]) := hx
 have f3 : 0 ≤ i ∧ i < ((loosR p).length : Int) := by simp; omega
 have f4 := Fd (n + 19) (by omega)
 have f5 := I
 have f6 : LV.int i64 (IntKind.wrap i64 (u + 1)) = LV.int i64 (u + 1) := by simp (disch := omega)
 have f7 : LV.int i64 (IntKind.wrap i64 (i + 1)) = LV.int i64 (i + 1) := by simp (disch := omega)
 have f8 := hr
 exact dlp (fun h => ai (congrArg LV.bool f1) <| ai (f3) <| ai (f2) <| ai (f4) <| ai (Eq.refl (tidyOf f5)) <| ai (f5) <| ai (f6) <| ai (f7) <| ai (Eq.refl (tidyOf f8)) <| ai (f8) <| h) (.i (.s (.s (.a) (.b true (.a))) (.s (.k (.s (.r [.a, .a, .a, .e (rOf f2)]) (.s (.r [.a, .a, .a, .a, .f (rOf f4)]) (.s (.a) (.s (.a) (.s (.s (.a) (.k (.l (.h [] (eOf f5) (stOf f5) (rOf f5))))) (.s (.a) (.c (.r [.a, .v (vOf f6) (.a)]))))))))) (.r [.a, .v (vOf f7) (.a)]))) (.h [] (eOf f8) (stOf f8) (rOf f8))) (by kernel_rfl)
theorem us_again (n fu : Nat) (rm : Int) (m : ML) (p : PL) (hp : p.length ≤ 1000) (hm : m.length ≤ 1000000) (u i : Int) (h0 : 0 ≤ i) (hi : i < (p.length : Int)) (a : Int) (b w : List Int) (hx : (loosR p)[i.toNat]? = some (.agg [.int .i64 a, .bool false, .isl 1 (bys b)]))
  (Fd : ∀ j, 100 < j + 20 → lrun prog C0 (lcall prog C0 (j + 20)) (j + 20) 37 [.isl 2 (cellsR m), .int .i64 a] ⟨0, []⟩ = some (.tup [.isl 1 (bys w), .bool false], ⟨0, []⟩)) (hn : 100 < n)
  (I : loopAt prog C0 (n + 40) 15 1 0 (n + 40) (uiE u i true 0) (uiS rm m p a b) = some (.exit 2, uiX u i false i, uiS rm m p a b)) (r : LX × LEnv × St)
  (hr : loopAt prog C0 (n + 40) 15 0 0 fu (usE u (i + 1)) (rS rm m p) = some r) : loopAt prog C0 (n + 40) 15 0 0 (fu + 1) (usE u i) (rS rm m p) = some r := by
 have f1 : decide (i < ((loosR p).length : Int)) = true := by simp; omega
 have f2 : (loosR p)[i.toNat]? = some (LV.agg [.int i64 a, .bool false, .isl 1 (bys b)]) := hx
 have f3 : 0 ≤ i ∧ i < ((loosR p).length : Int) := by simp; omega
 have f4 := Fd (n + 19) (by omega)
 have f5 := I
 have f6 : LV.int i64 (IntKind.wrap i64 (i + 1)) = LV.int i64 (i + 1) := by simp (disch := omega)
 have f7 := hr
 exact dlp (fun h => ai (congrArg LV.bool f1) <| ai (f3) <| ai (f2) <| ai (f4) <| ai (Eq.refl (tidyOf f5)) <| ai (f5) <| ai (f6) <| ai (Eq.refl (tidyOf f7)) <| ai (f7) <| h) (.i (.s (.s (.a) (.b true (.a))) (.s (.k (.s (.r [.a, .a, .a, .e (rOf f2)]) (.s (.r [.a, .a, .a, .a, .f (rOf f4)]) (.s (.a) (.s (.a) (.s (.s (.a) (.k (.l (.h [] (eOf f5) (stOf f5) (rOf f5))))) (.a))))))) (.r [.a, .v (vOf f6) (.a)]))) (.h [] (eOf f7) (stOf f7) (rOf f7))) (by kernel_rfl)
theorem us_thru (n : Nat) (rm : Int) (m : ML) (p : PL) (hp : p.length ≤ 1000) (hm : m.length ≤ 1000000) (u : Int)
  (L : loopAt prog C0 (n + 40) 15 0 0 (n + 40) (usE m.length 0) (rS rm m p) = some (.exit 0, usX rm m p u p.length, rS rm m p)) :
  lrun prog C0 (lcall prog C0 (n + 40)) (n + 40) 15 [rR rm m p] ⟨0, []⟩ = some (.int .i64 u, ⟨0, []⟩) := by
 have f1 : LV.int i64 ((cellsR m).length : Int) = LV.int i64 (m.length : Int) := by simp
 have f2 := L
 exact drn (fun h => ai (f1) <| ai (Eq.refl (tidyOf f2)) <| ai (f2) <| h) (.s (.a) (.s (.a) (.s (.s (.a) (.k (.l (.h [.y 3 (vOf f1)] (eOf f2) (stOf f2) (rOf f2))))) (.a)))) [] .a (by kernel_rfl)
theorem taken_there (n : Nat) (rm : Int) (m : ML) (p : PL) (hp : p.length ≤ 1000) (hm : m.length ≤ 1000000) (a : Int) (b : List Int) (hn : 100 < n)
  (Fd : ∀ j, 100 < j + 20 → lrun prog C0 (lcall prog C0 (j + 20)) (j + 20) 37 [.isl 2 (cellsR m), .int .i64 a] ⟨0, []⟩ = some (.tup [.isl 1 (bys b), .bool true], ⟨0, []⟩)) :
  lrun prog C0 (lcall prog C0 (n + 40)) (n + 40) 47 [rR rm m p, .int .i64 a] ⟨0, []⟩ = some (.bool true, ⟨0, []⟩) := by
 have f1 := Fd (n + 19) (by omega)
 exact drn (fun h => ai (f1) <| h) (.s (.a) (.s (.s (.r [.a, .a, .a, .f (rOf f1)]) (.a)) .a)) [] .a (by kernel_rfl)
theorem taken_hit (n : Nat) (rm : Int) (m : ML) (p : PL) (hp : p.length ≤ 1000) (hm : m.length ≤ 1000000) (a i : Int) (w : LV) (hn : 100 < n)
  (Fd : ∀ j, 100 < j + 20 → lrun prog C0 (lcall prog C0 (j + 20)) (j + 20) 37 [.isl 2 (cellsR m), .int .i64 a] ⟨0, []⟩ = some (.tup [.isl 1 [], .bool false], ⟨0, []⟩))
  (L : loopAt prog C0 (n + 40) 47 0 0 (n + 40) (taE a 0) (rS rm m p) = some (.ret, taH rm m p a i w, rS rm m p)) :
  lrun prog C0 (lcall prog C0 (n + 40)) (n + 40) 47 [rR rm m p, .int .i64 a] ⟨0, []⟩ = some (.bool true, ⟨0, []⟩) := by
 have f1 := Fd (n + 19) (by omega)
 have f2 := L
 exact drn (fun h => ai (f1) <| ai (Eq.refl (tidyOf f2)) <| ai (f2) <| h) (.s (.a) (.s (.s (.r [.a, .a, .a, .f (rOf f1)]) (.a)) (.s (.s (.a) (.k (.l (.h [] (eOf f2) (stOf f2) (rOf f2))))) .a))) [] .a (by kernel_rfl)
theorem taken_none (n : Nat) (rm : Int) (m : ML) (p : PL) (hp : p.length ≤ 1000) (hm : m.length ≤ 1000000) (a : Int) (hn : 100 < n)
  (Fd : ∀ j, 100 < j + 20 → lrun prog C0 (lcall prog C0 (j + 20)) (j + 20) 37 [.isl 2 (cellsR m), .int .i64 a] ⟨0, []⟩ = some (.tup [.isl 1 [], .bool false], ⟨0, []⟩))
  (L : loopAt prog C0 (n + 40) 47 0 0 (n + 40) (taE a 0) (rS rm m p) = some (.exit 0, taX rm m p a p.length, rS rm m p)) :
  lrun prog C0 (lcall prog C0 (n + 40)) (n + 40) 47 [rR rm m p, .int .i64 a] ⟨0, []⟩ = some (.bool false, ⟨0, []⟩) := by
 have f1 := Fd (n + 19) (by omega)
 have f2 := L
 exact drn (fun h => ai (f1) <| ai (Eq.refl (tidyOf f2)) <| ai (f2) <| h) (.s (.a) (.s (.s (.r [.a, .a, .a, .f (rOf f1)]) (.a)) (.s (.s (.a) (.k (.l (.h [] (eOf f2) (stOf f2) (rOf f2))))) (.a)))) [] .a (by kernel_rfl)
theorem read_hitS (n : Nat) (rm : Int) (m : ML) (p : PL) (hp : p.length ≤ 1000) (hm : m.length ≤ 1000000) (a i : Int) (h0 : 0 ≤ a) (h1 : a ≤ 1073741824) (b : List Int) (v : Bool) (L : loopAt prog C0 (n + 40) 29 0 0 (n + 40) (reE a ((p.length : Int) - 1)) (rS2 rm m p) = some (.ret, reH p a i b v, rS2 rm m p)) :
  lrun prog C0 (lcall prog C0 (n + 40)) (n + 40) 29 [rR rm m p, .int .i64 a] ⟨0, []⟩ = some (.tup [.isl 1 (bys (blk b)), .int .i64 0], ⟨0, []⟩) := by
 have f1 : decide (0 ≤ a) = true := by simp; omega
 have f2 : LV.bool (if decide (0 ≤ a) = true then decide (a ≤ 1073741824) else false) = LV.bool true := by simp; omega
 have f3 : lrun prog C0 (lcall prog C0 (n + 39)) (n + 39) 46 [.int i64 a] (St.mk 0 []) = some (LV.bool true, St.mk 0 []) := drn (fun h => ai (congrArg some f1) <| ai (congrArg some f1) <| ai (f2) <| h) (.s (.a) (.s (.r [.a, .a, .a, .g true (.a), .g true (.a), .v (vOf f2) (.a)]) (.a))) [] .a (by kernel_rfl)
 have f4 : LV.int i64 (IntKind.wrap i64 (((loosR p).length : Int) - 1)) = LV.int i64 ((p.length : Int) - 1) := by simp (disch := omega)
 have f5 := L
 exact drn (fun h => ai (f3) <| ai (f4) <| ai (Eq.refl (tidyOf f5)) <| ai (f5) <| h) (.s (.a) (.s (.s (.r [.a, .f (rOf f3)]) (.a)) (.s (.s (.r [.a, .a, .a, .v (vOf f4) (.a)]) (.k (.l (.h [] (eOf f5) (stOf f5) (rOf f5))))) .a))) [] .a (by kernel_rfl)
theorem read_hitN (n : Nat) (rm : Int) (m : ML) (p : PL) (hp : p.length ≤ 1000) (hm : m.length ≤ 1000000) (a i : Int) (h0 : 0 ≤ a) (h1 : a ≤ 1073741824) (v : Bool) (L : loopAt prog C0 (n + 40) 29 0 0 (n + 40) (reE a ((p.length : Int) - 1)) (rS2 rm m p) = some (.ret, reN p a i v, rS2 rm m p)) :
  lrun prog C0 (lcall prog C0 (n + 40)) (n + 40) 29 [rR rm m p, .int .i64 a] ⟨0, []⟩ = some (.tup [.isl 1 (bys (List.replicate 64 0)), .int .i64 0], ⟨0, []⟩) := by
 have f1 : decide (0 ≤ a) = true := by simp; omega
 have f2 : LV.bool (if decide (0 ≤ a) = true then decide (a ≤ 1073741824) else false) = LV.bool true := by simp; omega
 have f3 : lrun prog C0 (lcall prog C0 (n + 39)) (n + 39) 46 [.int i64 a] (St.mk 0 []) = some (LV.bool true, St.mk 0 []) := drn (fun h => ai (congrArg some f1) <| ai (congrArg some f1) <| ai (f2) <| h) (.s (.a) (.s (.r [.a, .a, .a, .g true (.a), .g true (.a), .v (vOf f2) (.a)]) (.a))) [] .a (by kernel_rfl)
 have f4 : LV.int i64 (IntKind.wrap i64 (((loosR p).length : Int) - 1)) = LV.int i64 ((p.length : Int) - 1) := by simp (disch := omega)
 have f5 := L
 exact drn (fun h => ai (f3) <| ai (f4) <| ai (Eq.refl (tidyOf f5)) <| ai (f5) <| h) (.s (.a) (.s (.s (.r [.a, .f (rOf f3)]) (.a)) (.s (.s (.r [.a, .a, .a, .v (vOf f4) (.a)]) (.k (.l (.h [] (eOf f5) (stOf f5) (rOf f5))))) .a))) [] .a (by kernel_rfl)
theorem read_cell (n : Nat) (rm : Int) (m : ML) (p : PL) (hp : p.length ≤ 1000) (hm : m.length ≤ 1000000) (a : Int) (h0 : 0 ≤ a) (h1 : a ≤ 1073741824) (L : loopAt prog C0 (n + 40) 29 0 0 (n + 40) (reE a ((p.length : Int) - 1)) (rS2 rm m p) = some (.exit 0, reX a, rS2 rm m p)) (hn : 100 < n) (b : List Int) (hb : b.length ≤ 64)
  (Fd : ∀ j, 100 < j + 20 → lrun prog C0 (lcall prog C0 (j + 20)) (j + 20) 37 [.isl 2 (cellsR m), .int .i64 a] ⟨0, []⟩ = some (.tup [.isl 1 (bys b), .bool true], ⟨0, []⟩)) :
  lrun prog C0 (lcall prog C0 (n + 40)) (n + 40) 29 [rR rm m p, .int .i64 a] ⟨0, []⟩ = some (.tup [.isl 1 (bys (blk b)), .int .i64 0], ⟨0, []⟩) := by
 have f1 : decide (0 ≤ a) = true := by simp; omega
 have f2 : LV.bool (if decide (0 ≤ a) = true then decide (a ≤ 1073741824) else false) = LV.bool true := by simp; omega
 have f3 : lrun prog C0 (lcall prog C0 (n + 39)) (n + 39) 46 [.int i64 a] (St.mk 0 []) = some (LV.bool true, St.mk 0 []) := drn (fun h => ai (congrArg some f1) <| ai (congrArg some f1) <| ai (f2) <| h) (.s (.a) (.s (.r [.a, .a, .a, .g true (.a), .g true (.a), .v (vOf f2) (.a)]) (.a))) [] .a (by kernel_rfl)
 have f4 : LV.int i64 (IntKind.wrap i64 (((loosR p).length : Int) - 1)) = LV.int i64 ((p.length : Int) - 1) := by simp (disch := omega)
 have f5 := L
 have f6 := Fd (n + 19) (by omega)
 have f7 := pad_ok (n + 19) b hb (by omega)
 exact drn (fun h => ai (f3) <| ai (f4) <| ai (Eq.refl (tidyOf f5)) <| ai (f5) <| ai (f6) <| ai (f7) <| h) (.s (.a) (.s (.s (.r [.a, .f (rOf f3)]) (.a)) (.s (.s (.r [.a, .a, .a, .v (vOf f4) (.a)]) (.k (.l (.h [] (eOf f5) (stOf f5) (rOf f5))))) (.s (.r [.a, .a, .a, .f (rOf f6)]) (.s (.r [.a, .f (rOf f7)]) (.a)))))) [] .a (by kernel_rfl)
theorem read_none (n : Nat) (rm : Int) (m : ML) (p : PL) (hp : p.length ≤ 1000) (hm : m.length ≤ 1000000) (a : Int) (h0 : 0 ≤ a) (h1 : a ≤ 1073741824) (L : loopAt prog C0 (n + 40) 29 0 0 (n + 40) (reE a ((p.length : Int) - 1)) (rS2 rm m p) = some (.exit 0, reX a, rS2 rm m p)) (hn : 100 < n)
  (Fd : ∀ j, 100 < j + 20 → lrun prog C0 (lcall prog C0 (j + 20)) (j + 20) 37 [.isl 2 (cellsR m), .int .i64 a] ⟨0, []⟩ = some (.tup [.isl 1 [], .bool false], ⟨0, []⟩)) :
  lrun prog C0 (lcall prog C0 (n + 40)) (n + 40) 29 [rR rm m p, .int .i64 a] ⟨0, []⟩ = some (.tup [.isl 1 (bys (List.replicate 64 0)), .int .i64 0], ⟨0, []⟩) := by
 have f1 : decide (0 ≤ a) = true := by simp; omega
 have f2 : LV.bool (if decide (0 ≤ a) = true then decide (a ≤ 1073741824) else false) = LV.bool true := by simp; omega
 have f3 : lrun prog C0 (lcall prog C0 (n + 39)) (n + 39) 46 [.int i64 a] (St.mk 0 []) = some (LV.bool true, St.mk 0 []) := drn (fun h => ai (congrArg some f1) <| ai (congrArg some f1) <| ai (f2) <| h) (.s (.a) (.s (.r [.a, .a, .a, .g true (.a), .g true (.a), .v (vOf f2) (.a)]) (.a))) [] .a (by kernel_rfl)
 have f4 : LV.int i64 (IntKind.wrap i64 (((loosR p).length : Int) - 1)) = LV.int i64 ((p.length : Int) - 1) := by simp (disch := omega)
 have f5 := L
 have f6 := Fd (n + 19) (by omega)
 exact drn (fun h => ai (f3) <| ai (f4) <| ai (Eq.refl (tidyOf f5)) <| ai (f5) <| ai (f6) <| h) (.s (.a) (.s (.s (.r [.a, .f (rOf f3)]) (.a)) (.s (.s (.r [.a, .a, .a, .v (vOf f4) (.a)]) (.k (.l (.h [] (eOf f5) (stOf f5) (rOf f5))))) (.s (.r [.a, .a, .a, .f (rOf f6)]) (.a))))) [] .a (by kernel_rfl)
theorem cells_same (n : Nat) (m k : ML) (hm : m.length ≤ 1000000) (hk : k.length = m.length) (L : loopAt prog C0 (n + 40) 11 0 0 (n + 40) (ceE2 m k 0) ⟨0, []⟩ = some (.exit 0, ceX2 m k m.length, ⟨0, []⟩)) :
  lrun prog C0 (lcall prog C0 (n + 40)) (n + 40) 11 [.isl 2 (cellsR m), .isl 2 (cellsR k)] ⟨0, []⟩ = some (.bool true, ⟨0, []⟩) := by
 have f1 : (!decide (((cellsR m).length : Int) = ((cellsR k).length : Int))) = false := by simp; omega
 have f2 := L
 exact drn (fun h => ai (congrArg LV.bool f1) <| ai (Eq.refl (tidyOf f2)) <| ai (f2) <| h) (.s (.a) (.s (.s (.a) (.b false (.a))) (.s (.s (.a) (.k (.l (.h [] (eOf f2) (stOf f2) (rOf f2))))) (.a)))) [] .a (by kernel_rfl)
@[simp] theorem loosR_snocS (p : PL) (a : Int) (b : List Int) : loosR p ++ [.agg [.int .i64 a, .bool false, .isl 1 (bys b)]] = loosR (p ++ [(a, some b)]) := by simp [loosR, looR]
@[simp] theorem loosR_snocF (p : PL) (a : Int) : loosR p ++ [.agg [.int .i64 a, .bool true, .nils]] = loosR (p ++ [(a, none)]) := by simp [loosR, looR]
theorem and_someP (n : Nat) (rm : Int) (m : ML) (p : PL) (hp : p.length ≤ 1000) (hm : m.length ≤ 1000000) (a : Int) (b : List Int) (h0 : 0 < p.length) :
  lrun prog C0 (lcall prog C0 (n + 40)) (n + 40) 48 [rR rm m p, .agg [.int .i64 a, .bool false, .isl 1 (bys b)]] ⟨0, []⟩ = some (rR rm m (p ++ [(a, some b)]), ⟨0, []⟩) := by
 have hT : List.take (p.length + 1) (loosR (p ++ [(a, some b)])) = loosR (p ++ [(a, some b)]) := List.take_of_length_le (by simp)
 have f1 : okElems true 3 (sealL (loosR p)) = true := by simp
 have f2 : List.length (sealL (loosR p)) * 40 ≤ 140737488355328 := by simp; omega
 have f3 : LV.sl 3 4 0 (List.length (sealL (loosR p))) none = LV.sl 3 4 0 (List.length p) none := by simp
 have f4 : LObj.row 82 3 (sealL (loosR p)) = LObj.row 82 3 (loosR p) := by simp
 have f5 : 1 ≤ 1 := by omega
 have f6 : List.length (loosR p) = List.length p ∧ (List.length p + 1) * 40 ≤ 140737488355328 := by simp; omega
 have f7 : LObj.row 82 3 (loosR p ++ List.take 1 (List.drop 0 (List.set [.agg [.int i64 0, .bool false, .nils]] 0 (LV.agg [.int i64 a, .bool false, .isl 1 (bys b)])))) = LObj.row 82 3 (loosR (p ++ [(a, some b)])) := by simp
 have f8 : LObj.row 82 3 (List.set [.agg [.int i64 0, .bool false, .nils]] 0 (LV.agg [.int i64 a, .bool false, .isl 1 (bys b)])) = LObj.row 82 3 [.agg [.int i64 a, .bool false, .isl 1 (bys b)]] := by simp
 have f9 : LV.agg [.int i64 rm, .isl 2 (cellsR m), if 6 = 6 then if 3 = 3 ∧ 0 + (List.length p + 1) ≤ List.length (loosR (p ++ [(a, some b)])) ∧ capLe (List.length p + 1) none = true then LV.isl 3 (List.take (List.length p + 1) (List.drop 0 (loosR (p ++ [(a, some b)])))) else LV.any else LV.sl 3 6 0 (List.length p + 1) none] = LV.agg [.int i64 rm, .isl 2 (cellsR m), .isl 3 (loosR (p ++ [(a, some b)]))] := by simp; omega
 have f10 : LObj.box 35 [.int i64 rm, .isl 2 (cellsR m), if 6 = 6 then if 3 = 3 ∧ 0 + (List.length p + 1) ≤ List.length (loosR (p ++ [(a, some b)])) ∧ capLe (List.length p + 1) none = true then LV.isl 3 (List.take (List.length p + 1) (List.drop 0 (loosR (p ++ [(a, some b)])))) else LV.any else LV.sl 3 6 0 (List.length p + 1) none] = LObj.box 35 [.int i64 rm, .isl 2 (cellsR m), .isl 3 (loosR (p ++ [(a, some b)]))] := by simp; omega
 exact drn (fun h => ai (f1) <| ai (f2) <| ai (f3) <| ai (congrArg some f4) <| ai (f5) <| ai (f6) <| ai (congrArg some f7) <| ai (congrArg some f8) <| ai (f9) <| ai (congrArg some f10) <| ai (congrArg some f10) <| h) (.s (.a) (.s (.a) (.s (.r [.a, .a, .a, .a, .x 4 (vOf f4) (.v (vOf f3) (.q))]) (.s (.r [.a, .a, .a, .a, .x 5 (vOf f8) (.x 6 (vOf f7) (.q))]) (.a))))) [.y 0 (vOf f9), .x 3 (vOf f10), .x 2 (vOf f10)] .a (by kernel_rfl)
theorem and_noneP (n : Nat) (rm : Int) (m : ML) (p : PL) (hp : p.length ≤ 1000) (hm : m.length ≤ 1000000) (a : Int) (h0 : 0 < p.length) :
  lrun prog C0 (lcall prog C0 (n + 40)) (n + 40) 48 [rR rm m p, .agg [.int .i64 a, .bool true, .nils]] ⟨0, []⟩ = some (rR rm m (p ++ [(a, none)]), ⟨0, []⟩) := by
 have hT : List.take (p.length + 1) (loosR (p ++ [(a, none)])) = loosR (p ++ [(a, none)]) := List.take_of_length_le (by simp)
 have f1 : okElems true 3 (sealL (loosR p)) = true := by simp
 have f2 : List.length (sealL (loosR p)) * 40 ≤ 140737488355328 := by simp; omega
 have f3 : LV.sl 3 4 0 (List.length (sealL (loosR p))) none = LV.sl 3 4 0 (List.length p) none := by simp
 have f4 : LObj.row 82 3 (sealL (loosR p)) = LObj.row 82 3 (loosR p) := by simp
 have f5 : 1 ≤ 1 := by omega
 have f6 : List.length (loosR p) = List.length p ∧ (List.length p + 1) * 40 ≤ 140737488355328 := by simp; omega
 have f7 : LObj.row 82 3 (loosR p ++ List.take 1 (List.drop 0 (List.set [.agg [.int i64 0, .bool false, .nils]] 0 (LV.agg [.int i64 a, .bool true, .nils])))) = LObj.row 82 3 (loosR (p ++ [(a, none)])) := by simp
 have f8 : LObj.row 82 3 (List.set [.agg [.int i64 0, .bool false, .nils]] 0 (LV.agg [.int i64 a, .bool true, .nils])) = LObj.row 82 3 [.agg [.int i64 a, .bool true, .nils]] := by simp
 have f9 : LV.agg [.int i64 rm, .isl 2 (cellsR m), if 6 = 6 then if 3 = 3 ∧ 0 + (List.length p + 1) ≤ List.length (loosR (p ++ [(a, none)])) ∧ capLe (List.length p + 1) none = true then LV.isl 3 (List.take (List.length p + 1) (List.drop 0 (loosR (p ++ [(a, none)])))) else LV.any else LV.sl 3 6 0 (List.length p + 1) none] = LV.agg [.int i64 rm, .isl 2 (cellsR m), .isl 3 (loosR (p ++ [(a, none)]))] := by simp; omega
 have f10 : LObj.box 35 [.int i64 rm, .isl 2 (cellsR m), if 6 = 6 then if 3 = 3 ∧ 0 + (List.length p + 1) ≤ List.length (loosR (p ++ [(a, none)])) ∧ capLe (List.length p + 1) none = true then LV.isl 3 (List.take (List.length p + 1) (List.drop 0 (loosR (p ++ [(a, none)])))) else LV.any else LV.sl 3 6 0 (List.length p + 1) none] = LObj.box 35 [.int i64 rm, .isl 2 (cellsR m), .isl 3 (loosR (p ++ [(a, none)]))] := by simp; omega
 exact drn (fun h => ai (f1) <| ai (f2) <| ai (f3) <| ai (congrArg some f4) <| ai (f5) <| ai (f6) <| ai (congrArg some f7) <| ai (congrArg some f8) <| ai (f9) <| ai (congrArg some f10) <| ai (congrArg some f10) <| h) (.s (.a) (.s (.a) (.s (.r [.a, .a, .a, .a, .x 4 (vOf f4) (.v (vOf f3) (.q))]) (.s (.r [.a, .a, .a, .a, .x 5 (vOf f8) (.x 6 (vOf f7) (.q))]) (.a))))) [.y 0 (vOf f9), .x 3 (vOf f10), .x 2 (vOf f10)] .a (by kernel_rfl)
theorem and_some0 (n : Nat) (rm : Int) (m : ML) (hm : m.length ≤ 1000000) (a : Int) (b : List Int) :
  lrun prog C0 (lcall prog C0 (n + 40)) (n + 40) 48 [.agg [.int .i64 rm, .isl 2 (cellsR m), .isl 3 []], .agg [.int .i64 a, .bool false, .isl 1 (bys b)]] ⟨0, []⟩ = some (rR rm m [(a, some b)], ⟨0, []⟩) := by
 exact drn (fun h => h) (.a) [] .a (by kernel_rfl)
theorem and_none0 (n : Nat) (rm : Int) (m : ML) (hm : m.length ≤ 1000000) (a : Int) :
  lrun prog C0 (lcall prog C0 (n + 40)) (n + 40) 48 [.agg [.int .i64 rm, .isl 2 (cellsR m), .isl 3 []], .agg [.int .i64 a, .bool true, .nils]] ⟨0, []⟩ = some (rR rm m [(a, none)], ⟨0, []⟩) := by
 exact drn (fun h => h) (.a) [] .a (by kernel_rfl)
end Go.Mac
namespace Go.Mac
open Go Go.Eng Go.Proofs
set_option maxHeartbeats 0
set_option maxRecDepth 100000
end Go.Mac
namespace Go.Mac
open Go Go.Eng Go.Proofs Go.Mac.Nd
open Go.Proofs.Tryd (prog)
set_option maxRecDepth 100000
theorem blk_of64 {b : List Int} (h : b.length = 64) : blk b = b := by
 rw [← blk_padS, List.take_append_of_le_length (by omega), List.take_of_length_le (by omega)]
theorem drop_head {α : Type} {l : List α} {k : Nat} {x : α} {q : List α} (h : l.drop k = x :: q) : l[k]? = some x ∧ k < l.length ∧ l.drop (k + 1) = q := by
 have h1 : l[k]? = some x := by
  have := congrArg List.head? h
  simpa [List.head?_drop] using this
 exact ⟨h1, (List.getElem?_eq_some_iff.1 h1).1, by rw [← List.drop_drop, h]; rfl⟩
theorem find_loop (n : Nat) (m : ML) (hm : m.length ≤ 1000000) (a : Int) : ∀ (q : ML) (k fu : Nat), m.drop k = q → k ≤ m.length → q.length < fu →
  (∀ b, mget q a = some b → ∃ i, loopAt prog Ck (n + 20) 37 0 0 fu (fiE m a k) ⟨0, []⟩ = some (.ret, fiH m a i b, ⟨0, []⟩)) ∧
  (mget q a = none → loopAt prog Ck (n + 20) 37 0 0 fu (fiE m a k) ⟨0, []⟩ = some (.exit 0, fiX m a m.length, ⟨0, []⟩))
 | [], k, fu, hd, hk, hf => by
  obtain ⟨fu, rfl⟩ : ∃ q, fu = q + 1 := ⟨fu - 1, by omega⟩
  have : m.length ≤ k := by simpa using hd
  obtain rfl : k = m.length := by omega
  exact ⟨fun b h => by simp [mget] at h, fun _ => fi_end n fu m hm a _ (by omega)⟩
 | (c, v) :: q, k, fu, hd, hk, hf => by
  obtain ⟨fu, rfl⟩ : ∃ q, fu = q + 1 := ⟨fu - 1, by simp at hf; omega⟩
  obtain ⟨hx, hlt, hd2⟩ := drop_head hd
  have hx2 := cellsR_at hx
  by_cases h : c = a
  ·subst h
   refine ⟨fun b hb => ?_, fun hn => by simp [mget] at hn⟩
   simp only [mget, if_true, Option.some.injEq] at hb
   subst hb
   exact ⟨(k : Int), fi_hit n fu m hm c (k : Int) (by omega) (by omega) v hx2⟩
  ·obtain ⟨i1, i2⟩ := find_loop n m hm a q (k + 1) fu hd2 (by omega) (by simp at hf; omega)
   have st := fi_step n fu m hm a (k : Int) (by omega) (by omega) c v hx2 h
   refine ⟨fun b hb => ?_, fun hb => ?_⟩
   ·simp only [mget, if_neg h] at hb
    obtain ⟨i, hi⟩ := i1 b hb
    exact ⟨i, st _ hi⟩
   ·simp only [mget, if_neg h] at hb
    exact st _ (i2 hb)
abbrev findV (m : ML) (a : Int) : LV := .tup [.isl 1 (bys ((mget m a).getD [])), .bool (mget m a).isSome]
theorem find_ck (n : Nat) (m : ML) (hm : m.length ≤ 1000000) (a : Int) (hn : m.length < n + 20) :
  lrun prog Ck (lcall prog Ck (n + 20)) (n + 20) 37 [.isl 2 (cellsR m), .int .i64 a] ⟨0, []⟩ = some (findV m a, ⟨0, []⟩) := by
 obtain ⟨h1, h2⟩ := find_loop n m hm a m 0 (n + 20) rfl (by omega) hn
 cases h : mget m a with
 | some b =>
  obtain ⟨i, hi⟩ := h1 b h
  unfold findV; rw [h]
  exact find_hit n m hm a i b hi
 | none =>
  unfold findV; rw [h]
  exact find_none n m hm a (h2 h)
theorem find_c0 (n : Nat) (m : ML) (a : Int) (hm : m.length ≤ 500) :
  lrun prog C0 (lcall prog C0 n) n 37 [.isl 2 (cellsR m), .int .i64 a] ⟨0, []⟩ = some (findV m a, ⟨0, []⟩) :=
 x_runx (C := C0) (G := via 37) rfl (lcall_nil («as» := [.isl 2 (cellsR m), .int .i64 a]) rfl (find_ck 579 m (by omega) a (by omega))) (by kernel_rfl)
def insR (a : Int) (b : List Int) : ML → ML
 | [] => [(a, b)]
 | (c, v) :: q => if c < a then (c, v) :: insR a b q else if c = a then (a, b) :: q else (a, b) :: (c, v) :: q
theorem Asc.tail {x : Int × List Int} {m : ML} (h : Asc (x :: m)) : Asc m := (List.pairwise_cons.1 (show (x.1 :: mapK m).Pairwise (· < ·) from h)).2
theorem Asc.lt {x : Int × List Int} {m : ML} (h : Asc (x :: m)) : ∀ y ∈ mapK m, x.1 < y := (List.pairwise_cons.1 (show (x.1 :: mapK m).Pairwise (· < ·) from h)).1
theorem insR_put (a : Int) (b : List Int) : ∀ m : ML, Asc m → mput2 m a b = insR a b m
 | [], _ => rfl
 | (c, v) :: m, h => by
  have ih := insR_put a b m (Asc.tail h)
  unfold mput2 at ih ⊢
  simp only [insR]
  by_cases h1 : c < a
  ·rw [if_pos h1]
   have hg : mget ((c, v) :: m) a = mget m a := by simp only [mget]; rw [if_neg (by omega)]
   rw [hg]
   by_cases hs : (mget m a).isSome = true
   ·rw [if_pos hs] at ih ⊢
    simp only [mset]; rw [if_neg (by omega), ih]
   ·rw [if_neg hs] at ih ⊢
    simp only [mins]; rw [if_neg (by omega), ih]
  ·rw [if_neg h1]
   by_cases h2 : c = a
   ·subst h2
    have hg : mget ((c, v) :: m) c = some v := by simp [mget]
    simp [hg, mset]
   ·have hn : a ∉ mapK ((c, v) :: m) := by
     simp only [mapK, List.map_cons, List.mem_cons]
     rintro (e | e)
     ·exact h2 e.symm
     ·have := Asc.lt h a e; simp only at this; omega
    have hg : ¬ (mget ((c, v) :: m) a).isSome = true := fun q => hn ((mget_some_iff _ _).1 q)
    rw [if_neg hg, if_neg h2]
    simp only [mins]; rw [if_pos (by omega)]
theorem ov_len (o : ML) (x : Int × List Int) : (o ++ [x]).length = o.length + 1 := by simp
theorem ov_len2 (o : ML) (x y : Int × List Int) : (o ++ [x, y]).length = o.length + 1 + 1 := by simp
theorem pw_restL (n : Nat) (m : ML) (hm : m.length ≤ 50000) (a : Int) (b : List Int) : ∀ (q : ML) (k fu : Nat) (o : ML), m.drop k = q → k ≤ m.length → q.length < fu → (∀ x ∈ q, ¬ x.1 = a) → 0 < o.length → o.length ≤ k + 1 →
  loopAt prog Ck (n + 40) 51 0 0 fu (puE m (.sl 2 1 0 o.length none) true k) (puS a false (.isl 1 (bys b)) o) = some (.exit 0, puX m (.sl 2 1 0 (o ++ q).length none) true m.length, puS a false (.isl 1 (bys b)) (o ++ q))
 | [], k, fu, o, hd, hk, hf, hq, h0, ho => by
  obtain ⟨fu, rfl⟩ : ∃ q, fu = q + 1 := ⟨fu - 1, by omega⟩
  have : m.length ≤ k := by simpa using hd
  obtain rfl : k = m.length := by omega
  rw [List.append_nil]
  exact pw_endT n fu m (by omega) o (by omega) h0 a b _ (by omega)
 | (c, v) :: q, k, fu, o, hd, hk, hf, hq, h0, ho => by
  obtain ⟨fu, rfl⟩ : ∃ q, fu = q + 1 := ⟨fu - 1, by simp at hf; omega⟩
  obtain ⟨hx, hlt, hd2⟩ := drop_head hd
  have ih := pw_restL n m hm a b q (k + 1) fu (o ++ [(c, v)]) hd2 (by omega) (by simp at hf; omega) (fun x hx => hq x (by simp [hx])) (by simp) (by simp; omega)
  rw [ov_len, List.append_assoc] at ih
  exact pw_rest n fu m (by omega) o (by omega) h0 a b (k : Int) (by omega) (by omega) c v (cellsR_at hx) (hq (c, v) (by simp)) _ ih
theorem asc_drop {m : ML} (h : Asc m) (k : Nat) : Asc (m.drop k) := h.sublist ((List.drop_sublist k m).map _)
theorem pw_loopR (n : Nat) (m : ML) (hm : m.length ≤ 50000) (ha : Asc m) (a : Int) (b : List Int) : ∀ (q : ML) (k fu : Nat) (o : ML), m.drop k = q → k ≤ m.length → q.length < fu → 0 < o.length → o.length ≤ k →
  ∃ (o' : ML) (d : Bool), 0 < o'.length ∧ o'.length ≤ m.length + 2 ∧ (if d then o' = o ++ insR a b q else o' ++ [(a, b)] = o ++ insR a b q) ∧
  loopAt prog Ck (n + 40) 51 0 0 fu (puE m (.sl 2 1 0 o.length none) false k) (puS a false (.isl 1 (bys b)) o) = some (.exit 0, puX m (.sl 2 1 0 o'.length none) d m.length, puS a false (.isl 1 (bys b)) o')
 | [], k, fu, o, hd, hk, hf, h0, ho => by
  obtain ⟨fu, rfl⟩ : ∃ q, fu = q + 1 := ⟨fu - 1, by omega⟩
  have : m.length ≤ k := by simpa using hd
  obtain rfl : k = m.length := by omega
  exact ⟨o, false, h0, by omega, by simp [insR], pw_endR n fu m (by omega) o (by omega) h0 a b _ (by omega)⟩
 | (c, v) :: q, k, fu, o, hd, hk, hf, h0, ho => by
  obtain ⟨fu, rfl⟩ : ∃ q, fu = q + 1 := ⟨fu - 1, by simp at hf; omega⟩
  obtain ⟨hx, hlt, hd2⟩ := drop_head hd
  have hA : Asc ((c, v) :: q) := by rw [← hd]; exact asc_drop ha k
  have hlen : (q.length : Int) + k + 1 = m.length := by
   have := congrArg List.length hd
   simp at this; omega
  by_cases h1 : c < a
  ·obtain ⟨o', d, g1, g2, g3, g4⟩ := pw_loopR n m hm ha a b q (k + 1) fu (o ++ [(c, v)]) hd2 (by omega) (by simp at hf; omega) (by simp) (by simp; omega)
   rw [ov_len] at g4
   refine ⟨o', d, g1, g2, ?_, pw_keepR n fu m (by omega) o (by omega) h0 a b (k : Int) (by omega) (by omega) c v (cellsR_at hx) h1 _ g4⟩
   simp only [insR, if_pos h1]
   rw [List.append_assoc] at g3
   exact g3
  ·have hne : ∀ x ∈ q, ¬ x.1 = a := fun x hxq e => by
    have := Asc.lt hA x.1 (List.mem_map.2 ⟨x, hxq, rfl⟩)
    simp only at this; omega
   by_cases h2 : c = a
   ·have R := pw_restL n m hm a b q (k + 1) fu (o ++ [(a, b)]) hd2 (by omega) (by simp at hf; omega) hne (by simp) (by simp; omega)
    rw [ov_len, List.append_assoc] at R
    refine ⟨o ++ ([(a, b)] ++ q), true, by simp; omega, by simp; omega, ?_, pw_eqR n fu m (by omega) o (by omega) h0 a b (k : Int) (by omega) (by omega) c v (cellsR_at hx) h2 _ R⟩
    simp [insR, h1, h2]
   ·have R := pw_restL n m hm a b q (k + 1) fu (o ++ [(a, b), (c, v)]) hd2 (by omega) (by simp at hf; omega) hne (by simp) (by simp; omega)
    rw [ov_len2, List.append_assoc] at R
    refine ⟨o ++ ([(a, b), (c, v)] ++ q), true, by simp; omega, by simp; omega, ?_, pw_gtR n fu m (by omega) o (by omega) h0 a b (k : Int) (by omega) (by omega) c v (cellsR_at hx) (by omega) _ R⟩
    simp [insR, h1, h2]
theorem put_ck (n : Nat) (m : ML) (hm : m.length ≤ 50000) (ha : Asc m) (a : Int) (b : List Int) (hn : m.length < n + 40) :
  lrun prog Ck (lcall prog Ck (n + 40)) (n + 40) 51 [.isl 2 (cellsR m), .agg [.int .i64 a, .bool false, .isl 1 (bys b)]] ⟨0, []⟩ = some (.isl 2 (cellsR (mput2 m a b)), ⟨0, []⟩) := by
 rw [insR_put a b m ha]
 match m, hm, ha, hn with
 | [], hm, ha, hn =>
  exact pw_thruN n [] (by simp) a b (by
   have := pw_endN n (n + 39) [] (by simp) a b 0 (by simp)
   exact this)
 | (c, v) :: q, hm, ha, hn =>
  have hx : (cellsR ((c, v) :: q))[(0 : Int).toNat]? = some (.agg [.int .i64 c, .isl 1 (bys v)]) := rfl
  have hl : ((c, v) :: q).length ≤ 100000 := by omega
  simp only [List.length_cons] at hm hn
  have fin : ∀ (o' : ML) (d : Bool), 0 < o'.length → o'.length ≤ q.length + 1 + 2 → (if d then o' = insR a b ((c, v) :: q) else o' ++ [(a, b)] = insR a b ((c, v) :: q)) →
    loopAt prog Ck (n + 40) 51 0 0 (n + 40) (puE ((c, v) :: q) .nils false 0) (puN a false (.isl 1 (bys b))) = some (.exit 0, puX ((c, v) :: q) (.sl 2 1 0 o'.length none) d ((c, v) :: q).length, puS a false (.isl 1 (bys b)) o') →
    lrun prog Ck (lcall prog Ck (n + 40)) (n + 40) 51 [.isl 2 (cellsR ((c, v) :: q)), .agg [.int .i64 a, .bool false, .isl 1 (bys b)]] ⟨0, []⟩ = some (.isl 2 (cellsR (insR a b ((c, v) :: q))), ⟨0, []⟩) := by
   intro o' d h1 h2 h3 h4
   cases d with
   | true => rw [if_pos rfl] at h3; rw [← h3]; exact pw_thruT n _ hl o' (by omega) h1 a b h4
   | false => rw [if_neg (by simp)] at h3; rw [← h3]; exact pw_thruR n _ hl o' (by omega) h1 a b h4
  have hne : ¬ c < a → ∀ x ∈ q, ¬ x.1 = a := fun h1 x hxq e => by
   have := Asc.lt ha x.1 (List.mem_map.2 ⟨x, hxq, rfl⟩)
   simp only at this; omega
  by_cases h1 : c < a
  ·obtain ⟨o', d, g1, g2, g3, g4⟩ := pw_loopR n ((c, v) :: q) (by simp; omega) ha a b q 1 (n + 39) [(c, v)] rfl (by simp) (by omega) (by simp) (by simp)
   refine fin o' d g1 (by simp at g2; omega) ?_ (pw_keepN n (n + 39) _ hl a b 0 (by omega) (by simp) c v hx h1 _ g4)
   simp only [insR, if_pos h1]
   simpa using g3
  ·by_cases h2 : c = a
   ·have R := pw_restL n ((c, v) :: q) (by simp; omega) a b q 1 (n + 39) [(a, b)] rfl (by simp) (by omega) (hne h1) (by simp) (by simp)
    refine fin ((a, b) :: q) true (by simp) (by simp only [List.length_cons]; omega) (by simp [insR, h1, h2]) (pw_eqN n (n + 39) _ hl a b 0 (by omega) (by simp) c v hx h2 _ R)
   ·have R := pw_restL n ((c, v) :: q) (by simp; omega) a b q 1 (n + 39) [(a, b), (c, v)] rfl (by simp) (by omega) (hne h1) (by simp) (by simp)
    refine fin ((a, b) :: (c, v) :: q) true (by simp) (by simp only [List.length_cons]; omega) (by simp [insR, h1, h2]) (pw_gtN n (n + 39) _ hl a b 0 (by omega) (by simp) c v hx (by omega) _ R)
theorem loosR_atS {p : PL} {i : Nat} {a : Int} {b : List Int} (h : p[i]? = some (a, some b)) : (loosR p)[i]? = some (.agg [.int .i64 a, .bool false, .isl 1 (bys b)]) := by simp [loosR, looR, h]
theorem loosR_atN {p : PL} {i : Nat} {a : Int} (h : p[i]? = some (a, none)) : (loosR p)[i]? = some (.agg [.int .i64 a, .bool true, .nils]) := by simp [loosR, looR, h]
def hitP (a : Int) (x : Int × Option (List Int)) : Bool := decide (x.1 = a) && x.2.isSome
theorem taken_loop (n : Nat) (rm : Int) (m : ML) (p : PL) (hp : p.length ≤ 1000) (a : Int) : ∀ (q : PL) (k fu : Nat), p.drop k = q → k ≤ p.length → q.length < fu →
  (q.any (hitP a) = true → ∃ i w, loopAt prog C0 (n + 20) 47 0 0 fu (taE a k) (rS rm m p) = some (.ret, taH rm m p a i w, rS rm m p)) ∧
  (q.any (hitP a) = false → loopAt prog C0 (n + 20) 47 0 0 fu (taE a k) (rS rm m p) = some (.exit 0, taX rm m p a p.length, rS rm m p))
 | [], k, fu, hd, hk, hf => by
  obtain ⟨fu, rfl⟩ : ∃ q, fu = q + 1 := ⟨fu - 1, by omega⟩
  have : p.length ≤ k := by simpa using hd
  obtain rfl : k = p.length := by omega
  exact ⟨fun h => by simp at h, fun _ => ta_end n fu rm m p hp a _ (by omega)⟩
 | (c, o) :: q, k, fu, hd, hk, hf => by
  obtain ⟨fu, rfl⟩ : ∃ q, fu = q + 1 := ⟨fu - 1, by simp at hf; omega⟩
  obtain ⟨hx, hlt, hd2⟩ := drop_head hd
  obtain ⟨i1, i2⟩ := taken_loop n rm m p hp a q (k + 1) fu hd2 (by omega) (by simp at hf; omega)
  rw [List.any_cons]
  cases o with
  | none =>
   have hh : hitP a (c, none) = false := by simp [hitP]
   rw [hh, Bool.false_or]
   have hx2 := loosR_atN hx
   by_cases h : c = a
   ·subst h
    have st := ta_step2 n fu rm m p hp c (k : Int) (by omega) (by omega) _ hx2
    exact ⟨fun h => by obtain ⟨i, w, hi⟩ := i1 h; exact ⟨i, w, st _ hi⟩, fun h => st _ (i2 h)⟩
   ·have st := ta_step1 n fu rm m p hp a (k : Int) (by omega) (by omega) c _ _ hx2 h
    exact ⟨fun h => by obtain ⟨i, w, hi⟩ := i1 h; exact ⟨i, w, st _ hi⟩, fun h => st _ (i2 h)⟩
  | some b =>
   have hx2 := loosR_atS hx
   by_cases h : c = a
   ·subst h
    have hh : hitP c (c, some b) = true := by simp [hitP]
    rw [hh, Bool.true_or]
    exact ⟨fun _ => ⟨(k : Int), _, ta_hit n fu rm m p hp c (k : Int) (by omega) (by omega) _ hx2⟩, fun h => by simp at h⟩
   ·have hh : hitP a (c, some b) = false := by simp [hitP, h]
    rw [hh, Bool.false_or]
    have st := ta_step1 n fu rm m p hp a (k : Int) (by omega) (by omega) c _ _ hx2 h
    exact ⟨fun h => by obtain ⟨i, w, hi⟩ := i1 h; exact ⟨i, w, st _ hi⟩, fun h => st _ (i2 h)⟩
theorem any_hit (a : Int) (p : PL) : p.any (hitP a) = true ↔ ∃ b, (a, some b) ∈ p := by
 rw [List.any_eq_true]
 constructor
 ·rintro ⟨⟨c, o⟩, hx, h⟩
  simp only [hitP, Bool.and_eq_true, decide_eq_true_eq] at h
  obtain ⟨h1, h2⟩ := h
  obtain ⟨b, rfl⟩ := Option.isSome_iff_exists.1 h2
  subst h1
  exact ⟨b, hx⟩
 ·rintro ⟨b, hx⟩
  exact ⟨_, hx, by simp [hitP]⟩
theorem taken_any (n : Nat) (rm : Int) (m : ML) (p : PL) (hp : p.length ≤ 1000) (hm : m.length ≤ 500) (a : Int) (hn : 100 < n) (hn2 : p.length < n + 40) :
  lrun prog C0 (lcall prog C0 (n + 40)) (n + 40) 47 [rR rm m p, .int .i64 a] ⟨0, []⟩ = some (.bool (decide (a ∈ keysL (needs m p))), ⟨0, []⟩) := by
 have Fd := fun j (hj : 100 < j + 20) => find_c0 (j + 20) m a hm
 obtain ⟨h1, h2⟩ := taken_loop (n + 20) rm m p hp a p 0 (n + 40) rfl (by omega) hn2
 unfold findV at Fd
 cases hg : mget m a with
 | some b =>
  rw [hg] at Fd
  have : a ∈ keysL (needs m p) := by rw [needs_mem]; exact .inl ((mget_some_iff a m).1 (by rw [hg]; rfl))
  rw [decide_eq_true this]
  exact taken_there n rm m p hp (by omega) a b hn Fd
 | none =>
  rw [hg] at Fd
  have hk : a ∉ mapK m := fun q => by have := (mget_some_iff a m).2 q; rw [hg] at this; simp at this
  cases hq : p.any (hitP a) with
  | true =>
   obtain ⟨i, w, hi⟩ := h1 hq
   have : a ∈ keysL (needs m p) := by rw [needs_mem]; exact .inr ((any_hit a p).1 hq)
   rw [decide_eq_true this]
   exact taken_hit n rm m p hp (by omega) a i w hn Fd hi
  | false =>
   have : a ∉ keysL (needs m p) := by
    rw [needs_mem]
    rintro (q | q)
    ·exact hk q
    ·rw [(any_hit a p).2 q] at hq; simp at hq
   rw [decide_eq_false this]
   exact taken_none n rm m p hp (by omega) a hn Fd (h2 hq)
theorem lastW_snoc (a c : Int) (o : Option (List Int)) : ∀ p, lastW a (p ++ [(c, o)]) = if c = a then some o else lastW a p
 | [] => by simp [lastW]
 | (k, v) :: p => by
  have ih := lastW_snoc a c o p
  simp only [List.cons_append, lastW, ih]
  by_cases h : c = a
  ·simp [h]
  ·simp only [if_neg h]
theorem read_loop (n : Nat) (rm : Int) (m : ML) (p : PL) (hp : p.length ≤ 1000) (h64 : ok64 p) (a : Int) (hn : 100 < n) : ∀ (k fu : Nat), k ≤ p.length → k < fu →
  (∀ b, lastW a (p.take k) = some (some b) → ∃ i, loopAt prog C0 (n + 40) 29 0 0 fu (reE a ((k : Int) - 1)) (rS2 rm m p) = some (.ret, reH p a i b false, rS2 rm m p)) ∧
  (lastW a (p.take k) = some none → ∃ i, loopAt prog C0 (n + 40) 29 0 0 fu (reE a ((k : Int) - 1)) (rS2 rm m p) = some (.ret, reN p a i true, rS2 rm m p)) ∧
  (lastW a (p.take k) = none → loopAt prog C0 (n + 40) 29 0 0 fu (reE a ((k : Int) - 1)) (rS2 rm m p) = some (.exit 0, reX a, rS2 rm m p))
 | 0, fu, hk, hf => by
  obtain ⟨fu, rfl⟩ : ∃ q, fu = q + 1 := ⟨fu - 1, by omega⟩
  exact ⟨fun b h => by simp [lastW] at h, fun h => by simp [lastW] at h, fun _ => re_end n fu rm m p hp a⟩
 | k + 1, fu, hk, hf => by
  obtain ⟨fu, rfl⟩ : ∃ q, fu = q + 1 := ⟨fu - 1, by omega⟩
  have hlt : k < p.length := by omega
  have hx : p[k]? = some p[k] := List.getElem?_eq_getElem hlt
  have ht : p.take (k + 1) = p.take k ++ [p[k]] := List.take_succ_eq_append_getElem hlt
  obtain ⟨i1, i2, i3⟩ := read_loop n rm m p hp h64 a hn k fu (by omega) (by omega)
  rw [ht]
  have e : ((k + 1 : Nat) : Int) - 1 = k := by omega
  rw [e]
  have hmem := List.getElem_mem hlt
  generalize p[k] = x at hx hmem
  obtain ⟨c, o⟩ := x
  rw [lastW_snoc]
  by_cases h : c = a
  ·subst h
   rw [if_pos rfl]
   cases o with
   | some b =>
    have hb := h64 _ hmem b rfl
    refine ⟨fun d hd => ?_, fun hd => by simp at hd, fun hd => by simp at hd⟩
    simp only [Option.some.injEq] at hd
    subst hd
    exact ⟨(k : Int), re_hitS n fu rm m p hp c (k : Int) (by omega) (by omega) b (by omega) false (loosR_atS hx) hn⟩
   | none =>
    exact ⟨fun d hd => by simp at hd, fun _ => ⟨(k : Int), re_hitN n fu rm m p hp c (k : Int) (by omega) (by omega) true (loosR_atN hx) hn⟩, fun hd => by simp at hd⟩
  ·rw [if_neg h]
   obtain ⟨v, w, hx2⟩ : ∃ v w, (loosR p)[(k : Int).toNat]? = some (.agg [.int .i64 c, .bool v, w]) := by
    cases o with
    | some b => exact ⟨_, _, loosR_atS hx⟩
    | none => exact ⟨_, _, loosR_atN hx⟩
   have st := re_step n fu rm m p hp a (k : Int) (by omega) (by omega) c v w hx2 h
   exact ⟨fun d hd => by obtain ⟨i, hi⟩ := i1 d hd; exact ⟨i, st _ hi⟩, fun hd => by obtain ⟨i, hi⟩ := i2 hd; exact ⟨i, st _ hi⟩, fun hd => st _ (i3 hd)⟩
theorem blk_nil : blk [] = List.replicate 64 0 := by rw [← blk_padS]; simp
theorem read_any (n : Nat) (rm : Int) (m : ML) (p : PL) (hp : p.length ≤ 1000) (hm : m.length ≤ 500) (h64 : ok64 p) (hm64 : ∀ x ∈ m, x.2.length = 64) (a : Int) (h0 : 0 ≤ a) (h1 : a ≤ 1073741824) (hn : 100 < n) (hn2 : p.length < n + 40) :
  lrun prog C0 (lcall prog C0 (n + 40)) (n + 40) 29 [rR rm m p, .int .i64 a] ⟨0, []⟩ = some (.tup [.isl 1 (bys (rd m p a)), .int .i64 0], ⟨0, []⟩) := by
 have Fd := fun j (hj : 100 < j + 20) => find_c0 (j + 20) m a hm
 unfold findV at Fd
 obtain ⟨i1, i2, i3⟩ := read_loop n rm m p hp h64 a hn p.length (n + 40) (Nat.le_refl _) hn2
 rw [List.take_length] at i1 i2 i3
 unfold rd
 cases hl : lastW a p with
 | some o =>
  cases o with
  | some b =>
   obtain ⟨i, hi⟩ := i1 b hl
   exact read_hitS n rm m p hp (by omega) a i h0 h1 b false hi
  | none =>
   obtain ⟨i, hi⟩ := i2 hl
   simp only
   rw [blk_nil]
   exact read_hitN n rm m p hp (by omega) a i h0 h1 true hi
 | none =>
  simp only
  cases hg : mget m a with
  | some b =>
   rw [hg] at Fd
   have hb : b.length = 64 := by
    have : ∀ m : ML, mget m a = some b → ∃ x ∈ m, x.2 = b := by
     intro m
     induction m with
     | nil => simp [mget]
     | cons y m ih =>
      obtain ⟨k, v⟩ := y
      simp only [mget]
      split
      ·intro h; injection h with h; exact ⟨(k, v), by simp, h⟩
      ·intro h; obtain ⟨x, h1, h2⟩ := ih h; exact ⟨x, by simp [h1], h2⟩
    obtain ⟨x, q1, q2⟩ := this m hg
    rw [← q2]; exact hm64 x q1
   exact read_cell n rm m p hp (by omega) a h0 h1 (i3 hl) hn b (by omega) Fd
  | none =>
   rw [hg] at Fd
   simp only
   rw [blk_nil]
   exact read_none n rm m p hp (by omega) a h0 h1 (i3 hl) hn Fd
theorem cellsR_loop (n : Nat) (m : ML) (hm : m.length ≤ 1000000) (h64 : ∀ x ∈ m, x.2.length = 64) (hn : 100 < n) : ∀ (q : ML) (k fu : Nat), m.drop k = q → k ≤ m.length → q.length < fu →
  loopAt prog C0 (n + 40) 11 0 0 fu (ceE2 m m k) ⟨0, []⟩ = some (.exit 0, ceX2 m m m.length, ⟨0, []⟩)
 | [], k, fu, hd, hk, hf => by
  obtain ⟨fu, rfl⟩ : ∃ q, fu = q + 1 := ⟨fu - 1, by omega⟩
  have : m.length ≤ k := by simpa using hd
  obtain rfl : k = m.length := by omega
  exact ce_end n fu m m hm rfl _ (by omega)
 | (c, v) :: q, k, fu, hd, hk, hf => by
  obtain ⟨fu, rfl⟩ : ∃ q, fu = q + 1 := ⟨fu - 1, by simp at hf; omega⟩
  obtain ⟨hx, hlt, hd2⟩ := drop_head hd
  have hv := h64 _ (List.mem_of_getElem? hx)
  exact ce_step n fu m m hm rfl (k : Int) (by omega) (by omega) c v (cellsR_at hx) (cellsR_at hx) hn (fun j hj => by have := same_any j v v (by simp at hv; omega) (by simp at hv; omega) (by simp at hv; omega); simpa using this) _ (cellsR_loop n m hm h64 hn q (k + 1) fu hd2 (by omega) (by simp at hf; omega))
theorem cells_any (n : Nat) (m : ML) (hm : m.length ≤ 1000000) (h64 : ∀ x ∈ m, x.2.length = 64) (hn : 100 < n) (hn2 : m.length < n + 40) :
  lrun prog C0 (lcall prog C0 (n + 40)) (n + 40) 11 [.isl 2 (cellsR m), .isl 2 (cellsR m)] ⟨0, []⟩ = some (.bool true, ⟨0, []⟩) :=
 cells_same n m m hm rfl (cellsR_loop n m hm h64 hn m 0 (n + 40) rfl (by omega) hn2)
theorem mdel_none (a : Int) : ∀ m : ML, a ∉ mapK m → mdel m a = m
 | [], _ => rfl
 | (c, v) :: m, h => by
  have h1 : ¬ c = a := fun e => h (by simp [mapK, e])
  have h2 : a ∉ mapK m := fun e => h (by simp only [mapK, List.map_cons, List.mem_cons]; exact .inr e)
  simp only [mdel]; rw [if_neg h1, mdel_none a m h2]
theorem pf_loopR (n : Nat) (m : ML) (hm : m.length ≤ 50000) (ha : Asc m) (a : Int) : ∀ (q : ML) (k fu : Nat) (o : ML), m.drop k = q → k ≤ m.length → q.length < fu → 0 < o.length → o.length ≤ k →
  loopAt prog Ck (n + 40) 51 0 0 fu (puE m (.sl 2 1 0 o.length none) true k) (puS a true .nils o) = some (.exit 0, puX m (.sl 2 1 0 (o ++ mdel q a).length none) true m.length, puS a true .nils (o ++ mdel q a))
 | [], k, fu, o, hd, hk, hf, h0, ho => by
  obtain ⟨fu, rfl⟩ : ∃ q, fu = q + 1 := ⟨fu - 1, by omega⟩
  have : m.length ≤ k := by simpa using hd
  obtain rfl : k = m.length := by omega
  simp only [mdel, List.append_nil]
  exact pf_endR n fu m (by omega) o (by omega) h0 a _ (by omega)
 | (c, v) :: q, k, fu, o, hd, hk, hf, h0, ho => by
  obtain ⟨fu, rfl⟩ : ∃ q, fu = q + 1 := ⟨fu - 1, by simp at hf; omega⟩
  obtain ⟨hx, hlt, hd2⟩ := drop_head hd
  have hA : Asc ((c, v) :: q) := by rw [← hd]; exact asc_drop ha k
  by_cases h : c = a
  ·have hn : a ∉ mapK q := fun e => by have := Asc.lt hA a e; simp only at this; omega
   have ih := pf_loopR n m hm ha a q (k + 1) fu o hd2 (by omega) (by simp at hf; omega) h0 (by omega)
   rw [mdel_none a q hn] at ih
   have e : mdel ((c, v) :: q) a = q := by simp [mdel, h]
   rw [e]
   exact pf_eqR n fu m (by omega) o (by omega) h0 a (k : Int) (by omega) (by omega) c v (cellsR_at hx) h _ ih
  ·have ih := pf_loopR n m hm ha a q (k + 1) fu (o ++ [(c, v)]) hd2 (by omega) (by simp at hf; omega) (by simp) (by simp; omega)
   rw [ov_len, List.append_assoc] at ih
   have e : mdel ((c, v) :: q) a = (c, v) :: mdel q a := by simp [mdel, h]
   rw [e]
   exact pf_keepR n fu m (by omega) o (by omega) h0 a (k : Int) (by omega) (by omega) c v (cellsR_at hx) h _ ih
theorem putf_ck (n : Nat) (m : ML) (hm : m.length ≤ 50000) (ha : Asc m) (a : Int) (hn : m.length < n + 40) :
  lrun prog Ck (lcall prog Ck (n + 40)) (n + 40) 51 [.isl 2 (cellsR m), .agg [.int .i64 a, .bool true, .nils]] ⟨0, []⟩ = some (.isl 2 (cellsR (mdel m a)), ⟨0, []⟩) := by
 match m, hm, ha, hn with
 | [], hm, ha, hn => exact pf_thruN n [] (by simp) a (pf_endN n (n + 39) [] (by simp) a 0 (by simp))
 | (c, v) :: q, hm, ha, hn =>
  have hx : (cellsR ((c, v) :: q))[(0 : Int).toNat]? = some (.agg [.int .i64 c, .isl 1 (bys v)]) := rfl
  have hl : ((c, v) :: q).length ≤ 100000 := by omega
  simp only [List.length_cons] at hm hn
  by_cases h : c = a
  ·have hn2 : a ∉ mapK q := fun e => by have := Asc.lt ha a e; simp only at this; omega
   have e : mdel ((c, v) :: q) a = q := by simp [mdel, h]
   rw [e]
   match q, hl, hx, hn2, ha, hm, hn with
   | [], hl, hx, hn2, ha, hm, hn =>
    exact pf_thruN n _ hl a (pf_eqN n (n + 39) _ hl a 0 (by omega) (by simp) c v hx h _ (pf_endN n (n + 38) _ hl a 1 (by simp)))
   | (d, w) :: q, hl, hx, hn2, ha, hm, hn =>
    have hx2 : (cellsR ((c, v) :: (d, w) :: q))[(1 : Int).toNat]? = some (.agg [.int .i64 d, .isl 1 (bys w)]) := rfl
    have hd : ¬ d = a := fun e => hn2 (by simp [mapK, e])
    have hq : a ∉ mapK q := fun e => hn2 (by simp only [mapK, List.map_cons, List.mem_cons]; exact .inr e)
    have R := pf_loopR n ((c, v) :: (d, w) :: q) (by simp; simp at hm; omega) ha a q 2 (n + 38) [(d, w)] rfl (by simp only [List.length_cons]; omega) (by simp at hn; omega) (by simp) (by simp)
    rw [mdel_none a q hq] at R
    exact pf_thruR n _ hl ((d, w) :: q) (by simp at hm ⊢; omega) (by simp) a (pf_eqN n (n + 39) _ hl a 0 (by omega) (by simp; omega) c v hx h _ (pf_keepN n (n + 38) _ hl a 1 (by omega) (by simp; omega) d w hx2 hd _ R))
  ·have R := pf_loopR n ((c, v) :: q) (by simp; omega) ha a q 1 (n + 39) [(c, v)] rfl (by simp) (by omega) (by simp) (by simp)
   have e : mdel ((c, v) :: q) a = (c, v) :: mdel q a := by simp [mdel, h]
   rw [e]
   have hle : (mdel q a).length ≤ q.length := (mdel_sub a q).length_le
   exact pf_thruR n _ hl ((c, v) :: mdel q a) (by simp; omega) (by simp) a (pf_keepN n (n + 39) _ hl a 0 (by omega) (by simp) c v hx h _ R)
theorem put_c0S (n : Nat) (m : ML) (hm : m.length ≤ 500) (ha : Asc m) (a : Int) (b : List Int) :
  lrun prog C0 (lcall prog C0 n) n 51 [.isl 2 (cellsR m), .agg [.int .i64 a, .bool false, .isl 1 (bys b)]] ⟨0, []⟩ = some (.isl 2 (cellsR (mput2 m a b)), ⟨0, []⟩) :=
 x_runx (C := C0) (G := via 51) rfl (lcall_nil («as» := [.isl 2 (cellsR m), .agg [.int .i64 a, .bool false, .isl 1 (bys b)]]) rfl (put_ck 559 m (by omega) ha a b (by omega))) (by kernel_rfl)
theorem put_c0N (n : Nat) (m : ML) (hm : m.length ≤ 500) (ha : Asc m) (a : Int) :
  lrun prog C0 (lcall prog C0 n) n 51 [.isl 2 (cellsR m), .agg [.int .i64 a, .bool true, .nils]] ⟨0, []⟩ = some (.isl 2 (cellsR (mdel m a)), ⟨0, []⟩) :=
 x_runx (C := C0) (G := via 51) rfl (lcall_nil («as» := [.isl 2 (cellsR m), .agg [.int .i64 a, .bool true, .nils]]) rfl (putf_ck 559 m (by omega) ha a (by omega))) (by kernel_rfl)
theorem mput2_len (m : ML) (a : Int) (b : List Int) : (mput2 m a b).length ≤ m.length + 1 := by
 have h1 : ∀ m : ML, (mset m a b).length = m.length := by
  intro m
  induction m with
  | nil => rfl
  | cons x m ih => obtain ⟨k, v⟩ := x; simp only [mset]; split <;> simp [ih]
 have h2 : ∀ m : ML, (mins m a b).length = m.length + 1 := by
  intro m
  induction m with
  | nil => rfl
  | cons x m ih => obtain ⟨k, v⟩ := x; simp only [mins]; split <;> simp [ih]
 unfold mput2
 split
 ·rw [h1]; omega
 ·rw [h2]; exact Nat.le_refl _
theorem sync_loop (n : Nat) (rm : Int) (m : ML) (p : PL) (hp : p.length ≤ 100) (hm : m.length ≤ 100) (hn : 200 < n) : ∀ (q : PL) (k fu : Nat) (c : ML), p.drop k = q → k ≤ p.length → q.length < fu → Asc c → c.length ≤ m.length + k →
  loopAt prog C0 (n + 60) 30 0 0 fu (syE k) (syS rm m p c) = some (.exit 0, syX p p.length, syS rm m p (applyM q c))
 | [], k, fu, c, hd, hk, hf, hA, hc => by
  obtain ⟨fu, rfl⟩ : ∃ q, fu = q + 1 := ⟨fu - 1, by omega⟩
  have : p.length ≤ k := by simpa using hd
  obtain rfl : k = p.length := by omega
  exact sy_end n fu rm m p (by omega) (by omega) c _ (by omega)
 | (a, o) :: q, k, fu, c, hd, hk, hf, hA, hc => by
  obtain ⟨fu, rfl⟩ : ∃ q, fu = q + 1 := ⟨fu - 1, by simp at hf; omega⟩
  obtain ⟨hx, hlt, hd2⟩ := drop_head hd
  cases o with
  | some b =>
   have hl := mput2_len c a b
   exact sy_stepS n fu rm m p (by omega) (by omega) c _ (k : Int) (by omega) (by omega) a b (loosR_atS hx) (fun j hj => put_c0S (j + 40) c (by omega) hA a b) hn _ (sync_loop n rm m p hp hm hn q (k + 1) fu _ hd2 (by omega) (by simp at hf; omega) (mput2_asc hA a b) (by omega))
  | none =>
   have hl : (mdel c a).length ≤ c.length := (mdel_sub a c).length_le
   exact sy_stepN n fu rm m p (by omega) (by omega) c _ (k : Int) (by omega) (by omega) a (loosR_atN hx) (fun j hj => put_c0N (j + 40) c (by omega) hA a) hn _ (sync_loop n rm m p hp hm hn q (k + 1) fu _ hd2 (by omega) (by simp at hf; omega) (mdel_asc hA a) (by omega))
theorem sync_ref (n : Nat) (rm : Int) (m : ML) (p : PL) (hp : p.length ≤ 100) (hm : m.length ≤ 100) (hA : Asc m) (hn : 200 < n) :
  lrun prog C0 (lcall prog C0 (n + 60)) (n + 60) 30 [rR rm m p] ⟨0, []⟩ = some (rR rm (applyM p m) [], ⟨0, []⟩) :=
 sy_thru n rm m p (by omega) (by omega) _ (sync_loop n rm m p hp hm hn p 0 (n + 60) m rfl (by omega) (by omega) hA (by omega))
theorem needs_plus (m : ML) (p : PL) (a : Int) (b : List Int) (h : a ∉ keysL (needs m p)) : (needs m (p ++ [(a, some b)])).length = (needs m p).length + 1 := by
 refine Nat.le_antisymm (needs_more m p a b) ?_
 rw [needs_length, needs_length]
 have := sub_len (l := a :: keysL (needs m p)) (k := keysL (needs m (p ++ [(a, some b)]))) (List.nodup_cons.2 ⟨h, needs_nodup m p⟩) (fun x hx => by
  rw [needs_mem]
  rcases List.mem_cons.1 hx with rfl | hx
  ·exact .inr ⟨b, by simp⟩
  ·rw [needs_mem] at hx
   rcases hx with hx | ⟨c, hx⟩
   ·exact .inl hx
   ·exact .inr ⟨c, by simp [hx]⟩)
 simpa using this
theorem used_inner (n : Nat) (rm : Int) (m : ML) (p : PL) (hp : p.length ≤ 1000) (hm : m.length ≤ 1000000) (u : Int) (i : Nat) (hi : i < p.length) (a : Int) (b : List Int) : ∀ (j k fu : Nat) (f : Bool), k + j = i → j < fu →
  loopAt prog C0 (n + 40) 15 1 0 fu (uiE u i f k) (uiS rm m p a b) = some (.exit 2, uiX u i (f && !((p.take i).drop k).any (hitP a)) i, uiS rm m p a b)
 | 0, k, fu, f, hk, hf => by
  obtain ⟨fu, rfl⟩ : ∃ q, fu = q + 1 := ⟨fu - 1, by omega⟩
  obtain rfl : k = i := by omega
  rw [List.drop_of_length_le (by rw [List.length_take]; omega)]
  simp only [List.any_nil, Bool.not_false, Bool.and_true]
  exact ui_end n fu rm m p hp hm u k (by omega) a b f k (by omega)
 | j + 1, k, fu, f, hk, hf => by
  obtain ⟨fu, rfl⟩ : ∃ q, fu = q + 1 := ⟨fu - 1, by omega⟩
  have hlt : k < p.length := by omega
  have hx : p[k]? = some p[k] := List.getElem?_eq_getElem hlt
  have hd : (p.take i).drop k = p[k] :: (p.take i).drop (k + 1) := by
   rw [List.drop_eq_getElem_cons (by rw [List.length_take]; omega)]
   simp
  rw [hd, List.any_cons]
  generalize p[k] = x at hx
  obtain ⟨c, o⟩ := x
  have ih := fun f => used_inner n rm m p hp hm u i hi a b j (k + 1) fu f (by omega) (by omega)
  by_cases h : c = a
  ·subst h
   cases o with
   | some w =>
    have hh : hitP c (c, some w) = true := by simp [hitP]
    have I := ih false
    rw [Bool.false_and] at I
    rw [hh, Bool.true_or, Bool.not_true, Bool.and_false]
    exact ui_hit n fu rm m p hp hm u i (by omega) c b f (k : Int) (by omega) (by omega) _ (loosR_atS hx) _ I
   | none =>
    have hh : hitP c (c, none) = false := by simp [hitP]
    rw [hh, Bool.false_or]
    exact ui_free n fu rm m p hp hm u i (by omega) c b f (k : Int) (by omega) (by omega) _ (loosR_atN hx) _ (ih f)
  ·have hh : hitP a (c, o) = false := by simp [hitP, h]
   rw [hh, Bool.false_or]
   obtain ⟨v, w, hx2⟩ : ∃ v w, (loosR p)[(k : Int).toNat]? = some (.agg [.int .i64 c, .bool v, w]) := by
    cases o with
    | some b => exact ⟨_, _, loosR_atS hx⟩
    | none => exact ⟨_, _, loosR_atN hx⟩
   exact ui_miss n fu rm m p hp hm u i (by omega) a b f (k : Int) (by omega) (by omega) c h v w hx2 _ (ih f)
theorem used_loop (n : Nat) (rm : Int) (m : ML) (p : PL) (hp : p.length ≤ 100) (hm : m.length ≤ 100) (hn : 200 < n) : ∀ (j i fu : Nat), i + j = p.length → j < fu →
  loopAt prog C0 (n + 40) 15 0 0 fu (usE (needs m (p.take i)).length i) (rS rm m p) = some (.exit 0, usX rm m p (needs m p).length p.length, rS rm m p)
 | 0, i, fu, hi, hf => by
  obtain ⟨fu, rfl⟩ : ∃ q, fu = q + 1 := ⟨fu - 1, by omega⟩
  obtain rfl : i = p.length := by omega
  rw [List.take_length]
  exact us_end n fu rm m p (by omega) (by omega) _ _ (by omega)
 | j + 1, i, fu, hi, hf => by
  obtain ⟨fu, rfl⟩ : ∃ q, fu = q + 1 := ⟨fu - 1, by omega⟩
  have hlt : i < p.length := by omega
  have hx : p[i]? = some p[i] := List.getElem?_eq_getElem hlt
  have ht : p.take (i + 1) = p.take i ++ [p[i]] := List.take_succ_eq_append_getElem hlt
  have ih := used_loop n rm m p hp hm hn j (i + 1) fu (by omega) (by omega)
  rw [ht] at ih
  generalize p[i] = x at hx ih
  obtain ⟨a, o⟩ := x
  have Fd := fun j (hj : 100 < j + 20) => find_c0 (j + 20) m a (by omega)
  unfold findV at Fd
  cases o with
  | none =>
   rw [needs_free] at ih
   exact us_free n fu rm m p (by omega) (by omega) _ (i : Int) (by omega) (by omega) a _ _ (loosR_atN hx) Fd (by omega) _ ih
  | some b =>
   cases hg : mget m a with
   | some v =>
    rw [hg] at Fd
    have hk : a ∈ keysL (needs m (p.take i)) := by rw [needs_mem]; exact .inl ((mget_some_iff a m).1 (by rw [hg]; rfl))
    rw [needs_same m _ a b hk] at ih
    exact us_there n fu rm m p (by omega) (by omega) _ (i : Int) (by omega) (by omega) a b _ (loosR_atS hx) Fd (by omega) _ ih
   | none =>
    rw [hg] at Fd
    have hk : a ∉ mapK m := fun q => by have := (mget_some_iff a m).2 q; rw [hg] at this; simp at this
    have I := used_inner n rm m p (by omega) (by omega) ((needs m (p.take i)).length : Int) i hlt a b i 0 (n + 40) true (by omega) (by omega)
    rw [List.drop_zero, Bool.true_and] at I
    cases hq : (p.take i).any (hitP a) with
    | true =>
     rw [hq] at I
     have hk : a ∈ keysL (needs m (p.take i)) := by rw [needs_mem]; exact .inr ((any_hit a _).1 hq)
     rw [needs_same m _ a b hk] at ih
     exact us_again n fu rm m p (by omega) (by omega) _ (i : Int) (by omega) (by omega) a b _ (loosR_atS hx) Fd (by omega) I _ ih
    | false =>
     rw [hq] at I
     have hk : a ∉ keysL (needs m (p.take i)) := by
      rw [needs_mem]
      rintro (q | q)
      ·exact hk q
      ·rw [(any_hit a _).2 q] at hq; simp at hq
     rw [needs_plus m _ a b hk] at ih
     have hub : (needs m (p.take i)).length ≤ 1000 := by
      have h1 : (needs m (p.take i)).length ≤ m.length + i := by
       have : ∀ k, k ≤ p.length → (needs m (p.take k)).length ≤ (needs m []).length + k := by
        intro k
        induction k with
        | zero => intro _; simp
        | succ k ihk =>
         intro hk
         have hlt2 : k < p.length := by omega
         rw [List.take_succ_eq_append_getElem hlt2]
         have := ihk (by omega)
         obtain ⟨c, o⟩ := p[k]
         cases o with
         | none => rw [needs_free]; omega
         | some w => have := needs_more m (p.take k) c w; omega
       have h2 := this i (by omega)
       have h3 : (needs m []).length ≤ m.length := by
        rw [needs_length, show m.length = (mapK m).length by simp [mapK]]
        exact sub_len (needs_nodup m []) (fun x hx => by rw [needs_mem] at hx; simpa using hx)
       omega
      omega
     exact us_new n fu rm m p (by omega) (by omega) _ (i : Int) (by omega) (by omega) (by omega) (by omega) a b _ (loosR_atS hx) Fd (by omega) I _ (by simpa using ih)
theorem used_ref (n : Nat) (rm : Int) (m : ML) (p : PL) (hp : p.length ≤ 100) (hm : m.length ≤ 100) (hA : Asc m) (hn : 200 < n) :
  lrun prog C0 (lcall prog C0 (n + 40)) (n + 40) 15 [rR rm m p] ⟨0, []⟩ = some (.int .i64 (needs m p).length, ⟨0, []⟩) := by
 have L := used_loop n rm m p hp hm hn p.length 0 (n + 40) (by omega) (by omega)
 rw [List.take_zero, needs_of m hA] at L
 exact us_thru n rm m p (by omega) (by omega) _ L
end Go.Mac
namespace Go.Mac
open Go Go.Eng Go.Proofs Go.Mac.Nd
open Go.IntKind (i64)
open Go.Proofs.Tryd (prog)
set_option maxHeartbeats 0
set_option maxRecDepth 100000
theorem xc_thru (n : Nat) (rm : Int) (m : ML) (p : PL) (hp : p.length ≤ 1000) (hm : m.length ≤ 100000) (c : ML) (ks : List Int) (cut last : Int)
  (L1 : loopAt prog Ck (n + 60) 31 0 0 (n + 60) (xkE ks cut (-1) 0) (xkS rm m p) = some (.exit 0, xkX p ks cut last p.length, xkS rm m p))
  (L2 : loopAt prog Ck (n + 60) 31 1 0 (n + 60) (xcE ks cut last 0) (syS rm m p m) = some (.exit 2, xcX p ks cut last p.length, syS rm m p c)) :
  lrun prog Ck (lcall prog Ck (n + 60)) (n + 60) 31 [rR rm m p, .isl 1 (ints ks), .int .i64 cut] ⟨0, []⟩ = some (.agg [.int .i64 rm, .isl 2 (cellsR c), .isl 3 []], ⟨0, []⟩) := by
 have f1 := L1
 have f2 := L2
 exact drn (fun h => ai (Eq.refl (tidyOf f1)) <| ai (f1) <| ai (Eq.refl (tidyOf f2)) <| ai (f2) <| h) (.s (.a) (.s (.a) (.s (.s (.a) (.k (.l (.h [] (eOf f1) (stOf f1) (rOf f1))))) (.s (.a) (.s (.s (.a) (.k (.l (.h [] (eOf f2) (stOf f2) (rOf f2))))) (.a)))))) [] .a (by kernel_rfl)
theorem xk_loop (n : Nat) (rm : Int) (m : ML) (p : PL) (hp : p.length ≤ 1000) (hm : m.length ≤ 100000) (ks : List Int) (cut : Int) : ∀ (j k fu : Nat), k + j = p.length → j < fu →
  loopAt prog Ck (n + 60) 31 0 0 fu (xkE ks cut (lastK ks k) k) (xkS rm m p) = some (.exit 0, xkX p ks cut (lastK ks p.length) p.length, xkS rm m p)
 | 0, k, fu, hk, hf => by
  obtain ⟨fu, rfl⟩ : ∃ q, fu = q + 1 := ⟨fu - 1, by omega⟩
  obtain rfl : k = p.length := by omega
  exact xk_end n fu rm m p hp hm ks cut _ _ (by omega)
 | j + 1, k, fu, hk, hf => by
  obtain ⟨fu, rfl⟩ : ∃ q, fu = q + 1 := ⟨fu - 1, by omega⟩
  have ih := xk_loop n rm m p hp hm ks cut j (k + 1) fu (by omega) (by omega)
  by_cases h1 : k < ks.length
  ·by_cases h2 : atI ks k = 0
   ·have e : lastK ks (k + 1) = lastK ks k := by simp [lastK, h2]
    rw [e] at ih
    exact xk_miss n fu rm m p hp hm ks cut _ k (by omega) h1 h2 _ ih
   ·have e : lastK ks (k + 1) = k := by simp [lastK, h1, h2]
    rw [e] at ih
    exact xk_hit n fu rm m p hp hm ks cut _ k (by omega) h1 h2 _ ih
  ·have e : lastK ks (k + 1) = lastK ks k := by simp [lastK, h1]
   rw [e] at ih
   exact xk_over n fu rm m p hp hm ks cut _ k (by omega) (by omega) _ ih
theorem lastK_max (ks : List Int) (k : Nat) (h1 : k < ks.length) (h2 : ¬ atI ks k = 0) : ∀ N, k < N → (k : Int) ≤ lastK ks N
 | 0, h => by omega
 | N + 1, h => by
  simp only [lastK]
  split
  ·omega
  ·rename_i q
   by_cases e : k = N
   ·subst e; exact absurd ⟨h1, h2⟩ q
   ·exact lastK_max ks k h1 h2 N (by omega)
theorem atI_over (ks : List Int) (k : Nat) (h : ks.length ≤ k) : atI ks k = 0 := by
 unfold atI; simp [List.getElem?_eq_none h]
theorem tnL_splice (b c : List Int) (k : Nat) (hb : b.length = 64) (hk : k ≤ 64) : tnL b c k = spliceI c 0 (b.take k) := by
 unfold tnL spliceI
 have : (b.take k).length = k := by rw [List.length_take]; omega
 simp [this]
theorem cur_blk {m : ML} (h : ∀ x ∈ m, x.2.length = 64) (a : Int) : blk ((mget m a).getD []) = cur m a ∧ ((mget m a).getD []).length ≤ 64 := by
 unfold cur
 cases hg : mget m a with
 | none => exact ⟨blk_nil, by simp⟩
 | some b =>
  have : ∀ m : ML, mget m a = some b → ∃ x ∈ m, x.2 = b := by
   intro m
   induction m with
   | nil => simp [mget]
   | cons y m ih =>
    obtain ⟨k, v⟩ := y
    simp only [mget]
    split
    ·intro h; injection h with h; exact ⟨(k, v), by simp, h⟩
    ·intro h; obtain ⟨x, h1, h2⟩ := ih h; exact ⟨x, by simp [h1], h2⟩
  obtain ⟨x, q1, q2⟩ := this m hg
  have h3 : b.length = 64 := by rw [← q2]; exact h x q1
  refine ⟨?_, by simp only [Option.getD_some]; omega⟩
  simp [blk_of64 h3]
theorem xc_loop (n : Nat) (rm : Int) (m : ML) (p : PL) (hp : p.length ≤ 100) (hm : m.length ≤ 100) (hq : okQ p) (ks : List Int) (cut : Int) (hn : 300 < n) : ∀ (q : PL) (k fu : Nat) (c : ML), p.drop k = q → k ≤ p.length → q.length < fu → okM c → c.length ≤ m.length + k →
  loopAt prog Ck (n + 60) 31 1 0 fu (xcE ks cut (lastK ks p.length) k) (syS rm m p c) = some (.exit 2, xcX p ks cut (lastK ks p.length) p.length, syS rm m p (crashM ks cut (lastK ks p.length) q k c))
 | [], k, fu, c, hd, hk, hf, hA, hc => by
  obtain ⟨fu, rfl⟩ : ∃ q, fu = q + 1 := ⟨fu - 1, by omega⟩
  have : p.length ≤ k := by simpa using hd
  obtain rfl : k = p.length := by omega
  exact xc_end n fu rm m p (by omega) (by omega) c ks cut _ _ (by omega)
 | (a, o) :: q, k, fu, c, hd, hk, hf, hA, hc => by
  obtain ⟨fu, rfl⟩ : ∃ q, fu = q + 1 := ⟨fu - 1, by simp at hf; omega⟩
  obtain ⟨hx, hlt, hd2⟩ := drop_head hd
  have hmem := hq _ (List.mem_of_getElem? hx)
  have ih := fun c' h1 h2 => xc_loop n rm m p hp hm hq ks cut hn q (k + 1) fu c' hd2 (by omega) (by simp at hf; omega) h1 h2
  by_cases h1 : k < ks.length
  ·by_cases h2 : atI ks k = 0
   ·rw [crashM, show stepM ks cut (lastK ks p.length) k c (a, o) = c by unfold stepM; rw [if_pos (.inr h2)]]
    exact xc_lost n fu rm m p (by omega) (by omega) c c ks cut _ k (by omega) (by omega) (by omega) h2 hn _ (ih c hA (by omega))
   ·have hle := lastK_max ks k h1 h2 p.length hlt
    have hng : ¬ (lastK ks p.length < (k : Int) ∨ atI ks k = 0) := by rintro (e | e); omega; exact h2 e
    rw [crashM]
    unfold stepM
    rw [if_neg hng]
    cases o with
    | none =>
     have hl : (mdel c a).length ≤ c.length := (mdel_sub a c).length_le
     have I := ih (mdel c a) (hA.del a) (by omega)
     have U := fun j (hj : 200 < j) => putf_ck j c (by omega) hA.1 a (by omega)
     by_cases e : (k : Int) = lastK ks p.length
     ·rw [← e] at I ⊢
      exact xc_free2 n fu rm m p (by omega) (by omega) c _ ks cut k (by omega) (by omega) (by omega) h2 a (loosR_atN hx) U hn _ I
     ·exact xc_free1 n fu rm m p (by omega) (by omega) c _ ks cut _ k (by omega) (by omega) (by omega) h2 (by omega) a (loosR_atN hx) U hn _ I
    | some b =>
     have hb := hmem.2 b rfl
     by_cases e : (k : Int) = lastK ks p.length
     ·by_cases hcut : 0 ≤ cut ∧ cut < 64
      ·simp only [e, hcut, and_self, if_true]
       obtain ⟨g1, g2⟩ := cur_blk (fun x hx => (hA.2 x hx).2) a
       have hs := tnL_splice b (cur c a) cut.toNat hb (by omega)
       have hlen : (spliceI (cur c a) 0 (b.take cut.toNat)).length = 64 := by rw [← hs]; exact tnL_len b _ _ hb (cur_length c a) (by omega)
       have hl := mput2_len c a (spliceI (cur c a) 0 (b.take cut.toNat))
       have I := ih _ (hA.put hmem.1 hlen) (show (mput2 c a (spliceI (cur c a) 0 (b.take cut.toNat))).length ≤ _ by omega)
       have U := fun j (hj : 200 < j) => put_ck j c (by omega) hA.1 a (spliceI (cur c a) 0 (b.take cut.toNat)) (by omega)
       rw [← hs, ← g1] at I U
       rw [← hs, ← g1]
       rw [← e] at I ⊢
       exact xc_torn n fu rm m p (by omega) (by omega) c _ ks cut k (by omega) (by omega) (by omega) h2 hcut.1 hcut.2 a b (loosR_atS hx) hb (mget c a).isSome ((mget c a).getD []) g2 (fun j hj => find_ck j c (by omega) a (by omega)) U hn _ I
      ·have hneg : ¬ ((k : Int) = lastK ks p.length ∧ 0 ≤ cut ∧ cut < 64) := by rintro ⟨_, e1, e2⟩; exact hcut ⟨e1, e2⟩
       simp only [if_neg hneg]
       have hl := mput2_len c a b
       have I := ih _ (hA.put hmem.1 hb) (show (mput2 c a b).length ≤ _ by omega)
       have U := fun j (hj : 200 < j) => put_ck j c (by omega) hA.1 a b (by omega)
       rw [← e] at I ⊢
       by_cases h0 : cut < 0
       ·exact xc_put2 n fu rm m p (by omega) (by omega) c _ ks cut k (by omega) (by omega) (by omega) h2 h0 a b (loosR_atS hx) U hn _ I
       ·exact xc_put3 n fu rm m p (by omega) (by omega) c _ ks cut k (by omega) (by omega) (by omega) h2 (by omega) a b (loosR_atS hx) U hn _ I
     ·have hneg : ¬ ((k : Int) = lastK ks p.length ∧ 0 ≤ cut ∧ cut < 64) := by rintro ⟨e1, _⟩; exact e e1
      simp only [if_neg hneg]
      have hl := mput2_len c a b
      have I := ih _ (hA.put hmem.1 hb) (show (mput2 c a b).length ≤ _ by omega)
      have U := fun j (hj : 200 < j) => put_ck j c (by omega) hA.1 a b (by omega)
      exact xc_put1 n fu rm m p (by omega) (by omega) c _ ks cut _ k (by omega) (by omega) (by omega) h2 (by omega) a b (loosR_atS hx) U hn _ I
  ·rw [crashM, show stepM ks cut (lastK ks p.length) k c (a, o) = c by unfold stepM; rw [if_pos (.inr (atI_over ks k (by omega)))]]
   exact xc_over n fu rm m p (by omega) (by omega) c c ks cut _ k (by omega) (by omega) (by omega) hn _ (ih c hA (by omega))
theorem crash_ck (n : Nat) (rm : Int) (m : ML) (p : PL) (hp : p.length ≤ 100) (hm : m.length ≤ 100) (hq : okQ p) (hM : okM m) (ks : List Int) (cut : Int) (hn : 300 < n) :
  lrun prog Ck (lcall prog Ck (n + 60)) (n + 60) 31 [rR rm m p, .isl 1 (ints ks), .int .i64 cut] ⟨0, []⟩ = some (rR rm (crashD m p ks cut) [], ⟨0, []⟩) :=
 xc_thru n rm m p (by omega) (by omega) _ ks cut (lastK ks p.length) (xk_loop n rm m p (by omega) (by omega) ks cut p.length 0 (n + 60) (by omega) (by omega)) (xc_loop n rm m p hp hm hq ks cut hn p 0 (n + 60) m rfl (by omega) (by omega) hM (by omega))
theorem crash_c0 (n : Nat) (rm : Int) (m : ML) (p : PL) (hp : p.length ≤ 100) (hm : m.length ≤ 100) (hq : okQ p) (hM : okM m) (ks : List Int) (cut : Int) :
  lrun prog C0 (lcall prog C0 (n + 10)) (n + 10) 31 [rR rm m p, .isl 1 (ints ks), .int .i64 cut] ⟨0, []⟩ = some (rR rm (crashD m p ks cut) [], ⟨0, []⟩) :=
 x_runx (C := C0) (G := via 31) rfl (lcall_nil («as» := [rR rm m p, .isl 1 (ints ks), .int .i64 cut]) rfl (crash_ck 539 rm m p hp hm hq hM ks cut (by omega))) (by kernel_rfl)
theorem and_some (n : Nat) (rm : Int) (m : ML) (p : PL) (hp : p.length ≤ 1000) (hm : m.length ≤ 1000000) (a : Int) (b : List Int) :
  lrun prog C0 (lcall prog C0 (n + 40)) (n + 40) 48 [rR rm m p, .agg [.int .i64 a, .bool false, .isl 1 (bys b)]] ⟨0, []⟩ = some (rR rm m (p ++ [(a, some b)]), ⟨0, []⟩) := by
 cases p with
 | nil => exact and_some0 n rm m hm a b
 | cons x p => exact and_someP n rm m (x :: p) hp hm a b (by simp)
theorem and_none (n : Nat) (rm : Int) (m : ML) (p : PL) (hp : p.length ≤ 1000) (hm : m.length ≤ 1000000) (a : Int) :
  lrun prog C0 (lcall prog C0 (n + 40)) (n + 40) 48 [rR rm m p, .agg [.int .i64 a, .bool true, .nils]] ⟨0, []⟩ = some (rR rm m (p ++ [(a, none)]), ⟨0, []⟩) := by
 cases p with
 | nil => exact and_none0 n rm m hm a
 | cons x p => exact and_noneP n rm m (x :: p) hp hm a (by simp)
theorem rput_bad (n : Nat) (rm : Int) (m : ML) (p : PL) (a : Int) (b : List Int) (h : a < 0 ∨ 1073741824 < a) :
  lrun prog C0 (lcall prog C0 (n + 100)) (n + 100) 26 [rR rm m p, .int .i64 a, .isl 1 (bys b)] ⟨0, []⟩ = some (.tup [rR rm m p, .int .i64 2], ⟨0, []⟩) := by
 rcases h with h | h
 ·have f1 : decide (0 ≤ a) = false := by simp; omega
  have f2 : lpick (decide (0 ≤ a)) LV.any (LV.bool false) = some (LV.bool false) := by simp; omega
  have f3 : lrun prog C0 (lcall prog C0 (n + 99)) (n + 99) 46 [.int i64 a] (St.mk 0 []) = some (LV.bool false, St.mk 0 []) := drn (fun h => ai (congrArg some f1) <| ai (congrArg some f1) <| ai (x_map (st := (St.mk 0 [])) f2) <| h) (.s (.a) (.s (.r [.a, .a, .a, .g false (.a), .g false (.a), .t (rOf (x_map (st := (St.mk 0 [])) f2))]) (.a))) [] .a (by kernel_rfl)
  exact drn (fun h => ai (f3) <| h) (.s (.a) (.s (.s (.r [.a, .f (rOf f3)]) (.a)) .a)) [] .a (by kernel_rfl)
 ·have f1 : decide (0 ≤ a) = true := by simp; omega
  have f2 : LV.bool (if decide (0 ≤ a) = true then decide (a ≤ 1073741824) else false) = LV.bool false := by simp; omega
  have f3 : lrun prog C0 (lcall prog C0 (n + 99)) (n + 99) 46 [.int i64 a] (St.mk 0 []) = some (LV.bool false, St.mk 0 []) := drn (fun h => ai (congrArg some f1) <| ai (congrArg some f1) <| ai (f2) <| h) (.s (.a) (.s (.r [.a, .a, .a, .g true (.a), .g true (.a), .v (vOf f2) (.a)]) (.a))) [] .a (by kernel_rfl)
  exact drn (fun h => ai (f3) <| h) (.s (.a) (.s (.s (.r [.a, .f (rOf f3)]) (.a)) .a)) [] .a (by kernel_rfl)
theorem rput_long (n : Nat) (rm : Int) (m : ML) (p : PL) (a : Int) (b : List Int) (h0 : 0 ≤ a) (h1 : a ≤ 1073741824) (hb : 64 < b.length) (hb2 : b.length ≤ 1000000) :
  lrun prog C0 (lcall prog C0 (n + 100)) (n + 100) 26 [rR rm m p, .int .i64 a, .isl 1 (bys b)] ⟨0, []⟩ = some (.tup [rR rm m p, .int .i64 6], ⟨0, []⟩) := by
 have f1 : decide (0 ≤ a) = true := by simp; omega
 have f2 : LV.bool (if decide (0 ≤ a) = true then decide (a ≤ 1073741824) else false) = LV.bool true := by simp; omega
 have f3 : lrun prog C0 (lcall prog C0 (n + 99)) (n + 99) 46 [.int i64 a] (St.mk 0 []) = some (LV.bool true, St.mk 0 []) := drn (fun h => ai (congrArg some f1) <| ai (congrArg some f1) <| ai (f2) <| h) (.s (.a) (.s (.r [.a, .a, .a, .g true (.a), .g true (.a), .v (vOf f2) (.a)]) (.a))) [] .a (by kernel_rfl)
 have f4 : decide (64 < ((bys b).length : Int)) = true := by simp; omega
 exact drn (fun h => ai (f3) <| ai (congrArg LV.bool f4) <| h) (.s (.a) (.s (.s (.r [.a, .f (rOf f3)]) (.a)) (.s (.s (.a) (.b true (.a))) .a))) [] .a (by kernel_rfl)
theorem rput_full (n : Nat) (rm : Int) (m : ML) (p : PL) (a : Int) (b : List Int) (h0 : 0 ≤ a) (h1 : a ≤ 1073741824) (hb : b.length ≤ 64) (u : Int) (hu : rm ≤ u) (hn : 300 < n)
  (T : ∀ j, 200 < j → lrun prog C0 (lcall prog C0 (j + 40)) (j + 40) 47 [rR rm m p, .int .i64 a] ⟨0, []⟩ = some (.bool false, ⟨0, []⟩))
  (U : ∀ j, 200 < j → lrun prog C0 (lcall prog C0 (j + 40)) (j + 40) 15 [rR rm m p] ⟨0, []⟩ = some (.int .i64 u, ⟨0, []⟩)) :
  lrun prog C0 (lcall prog C0 (n + 100)) (n + 100) 26 [rR rm m p, .int .i64 a, .isl 1 (bys b)] ⟨0, []⟩ = some (.tup [rR rm m p, .int .i64 7], ⟨0, []⟩) := by
 have f1 : decide (0 ≤ a) = true := by simp; omega
 have f2 : LV.bool (if decide (0 ≤ a) = true then decide (a ≤ 1073741824) else false) = LV.bool true := by simp; omega
 have f3 : lrun prog C0 (lcall prog C0 (n + 99)) (n + 99) 46 [.int i64 a] (St.mk 0 []) = some (LV.bool true, St.mk 0 []) := drn (fun h => ai (congrArg some f1) <| ai (congrArg some f1) <| ai (f2) <| h) (.s (.a) (.s (.r [.a, .a, .a, .g true (.a), .g true (.a), .v (vOf f2) (.a)]) (.a))) [] .a (by kernel_rfl)
 have f4 : decide (64 < ((bys b).length : Int)) = false := by simp; omega
 have f5 := T (n + 59) (by omega)
 have f6 := U (n + 59) (by omega)
 have f7 : LV.bool (if true = true then decide (rm ≤ u) else false) = LV.bool true := by simp; omega
 exact drn (fun h => ai (f3) <| ai (congrArg LV.bool f4) <| ai (f5) <| ai (f6) <| ai (f7) <| h) (.s (.a) (.s (.s (.r [.a, .f (rOf f3)]) (.a)) (.s (.s (.a) (.b false (.a))) (.s (.s (.d [] [.a, .a, .f (rOf f5), .a, .a, .a, .f (rOf f6), .a, .a] [] [.a, .v (vOf f7) (.a)]) (.a)) .a)))) [] .a (by kernel_rfl)
theorem rput_okT (n : Nat) (rm : Int) (m : ML) (p : PL) (hp : p.length ≤ 1000) (hm : m.length ≤ 1000000) (a : Int) (b : List Int) (h0 : 0 ≤ a) (h1 : a ≤ 1073741824) (hb : b.length ≤ 64) (hn : 300 < n)
  (T : ∀ j, 200 < j → lrun prog C0 (lcall prog C0 (j + 40)) (j + 40) 47 [rR rm m p, .int .i64 a] ⟨0, []⟩ = some (.bool true, ⟨0, []⟩)) :
  lrun prog C0 (lcall prog C0 (n + 100)) (n + 100) 26 [rR rm m p, .int .i64 a, .isl 1 (bys b)] ⟨0, []⟩ = some (.tup [rR rm m (p ++ [(a, some (blk b))]), .int .i64 0], ⟨0, []⟩) := by
 have f1 : decide (0 ≤ a) = true := by simp; omega
 have f2 : LV.bool (if decide (0 ≤ a) = true then decide (a ≤ 1073741824) else false) = LV.bool true := by simp; omega
 have f3 : lrun prog C0 (lcall prog C0 (n + 99)) (n + 99) 46 [.int i64 a] (St.mk 0 []) = some (LV.bool true, St.mk 0 []) := drn (fun h => ai (congrArg some f1) <| ai (congrArg some f1) <| ai (f2) <| h) (.s (.a) (.s (.r [.a, .a, .a, .g true (.a), .g true (.a), .v (vOf f2) (.a)]) (.a))) [] .a (by kernel_rfl)
 have f4 : decide (64 < ((bys b).length : Int)) = false := by simp; omega
 have f5 := T (n + 59) (by omega)
 have f6 := pad_ok (n + 79) b hb (by omega)
 have f7 := and_some (n + 59) rm m p hp hm a (blk b)
 exact drn (fun h => ai (f3) <| ai (congrArg LV.bool f4) <| ai (f5) <| ai (f6) <| ai (f7) <| h) (.s (.a) (.s (.s (.r [.a, .f (rOf f3)]) (.a)) (.s (.s (.a) (.b false (.a))) (.s (.s (.d [] [.a, .a, .f (rOf f5), .a, .a, .a, .a, .a, .a] [] []) (.a)) (.s (.d [] [.a, .a, .a, .f (rOf f6), .a] [] [.f (rOf f7)]) (.a)))))) [] .a (by kernel_rfl)
theorem rput_okF (n : Nat) (rm : Int) (m : ML) (p : PL) (hp : p.length ≤ 1000) (hm : m.length ≤ 1000000) (a : Int) (b : List Int) (h0 : 0 ≤ a) (h1 : a ≤ 1073741824) (hb : b.length ≤ 64) (u : Int) (hu : u < rm) (hn : 300 < n)
  (T : ∀ j, 200 < j → lrun prog C0 (lcall prog C0 (j + 40)) (j + 40) 47 [rR rm m p, .int .i64 a] ⟨0, []⟩ = some (.bool false, ⟨0, []⟩))
  (U : ∀ j, 200 < j → lrun prog C0 (lcall prog C0 (j + 40)) (j + 40) 15 [rR rm m p] ⟨0, []⟩ = some (.int .i64 u, ⟨0, []⟩)) :
  lrun prog C0 (lcall prog C0 (n + 100)) (n + 100) 26 [rR rm m p, .int .i64 a, .isl 1 (bys b)] ⟨0, []⟩ = some (.tup [rR rm m (p ++ [(a, some (blk b))]), .int .i64 0], ⟨0, []⟩) := by
 have f1 : decide (0 ≤ a) = true := by simp; omega
 have f2 : LV.bool (if decide (0 ≤ a) = true then decide (a ≤ 1073741824) else false) = LV.bool true := by simp; omega
 have f3 : lrun prog C0 (lcall prog C0 (n + 99)) (n + 99) 46 [.int i64 a] (St.mk 0 []) = some (LV.bool true, St.mk 0 []) := drn (fun h => ai (congrArg some f1) <| ai (congrArg some f1) <| ai (f2) <| h) (.s (.a) (.s (.r [.a, .a, .a, .g true (.a), .g true (.a), .v (vOf f2) (.a)]) (.a))) [] .a (by kernel_rfl)
 have f4 : decide (64 < ((bys b).length : Int)) = false := by simp; omega
 have f5 := T (n + 59) (by omega)
 have f6 := U (n + 59) (by omega)
 have f7 : LV.bool (if true = true then decide (rm ≤ u) else false) = LV.bool false := by simp; omega
 have f8 := pad_ok (n + 79) b hb (by omega)
 have f9 := and_some (n + 59) rm m p hp hm a (blk b)
 exact drn (fun h => ai (f3) <| ai (congrArg LV.bool f4) <| ai (f5) <| ai (f6) <| ai (f7) <| ai (f8) <| ai (f9) <| h) (.s (.a) (.s (.s (.r [.a, .f (rOf f3)]) (.a)) (.s (.s (.a) (.b false (.a))) (.s (.s (.d [] [.a, .a, .f (rOf f5), .a, .a, .a, .f (rOf f6), .a, .a] [] [.a, .v (vOf f7) (.a)]) (.a)) (.s (.d [] [.a, .a, .a, .f (rOf f8), .a] [] [.f (rOf f9)]) (.a)))))) [] .a (by kernel_rfl)
theorem rfree_bad (n : Nat) (rm : Int) (m : ML) (p : PL) (a : Int) (h : a < 0 ∨ 1073741824 < a) :
  lrun prog C0 (lcall prog C0 (n + 100)) (n + 100) 28 [rR rm m p, .int .i64 a] ⟨0, []⟩ = some (.tup [rR rm m p, .int .i64 2], ⟨0, []⟩) := by
 rcases h with h | h
 ·have f1 : decide (0 ≤ a) = false := by simp; omega
  have f2 : lpick (decide (0 ≤ a)) LV.any (LV.bool false) = some (LV.bool false) := by simp; omega
  have f3 : lrun prog C0 (lcall prog C0 (n + 99)) (n + 99) 46 [.int i64 a] (St.mk 0 []) = some (LV.bool false, St.mk 0 []) := drn (fun h => ai (congrArg some f1) <| ai (congrArg some f1) <| ai (x_map (st := (St.mk 0 [])) f2) <| h) (.s (.a) (.s (.r [.a, .a, .a, .g false (.a), .g false (.a), .t (rOf (x_map (st := (St.mk 0 [])) f2))]) (.a))) [] .a (by kernel_rfl)
  exact drn (fun h => ai (f3) <| h) (.s (.a) (.s (.s (.r [.a, .f (rOf f3)]) (.a)) .a)) [] .a (by kernel_rfl)
 ·have f1 : decide (0 ≤ a) = true := by simp; omega
  have f2 : LV.bool (if decide (0 ≤ a) = true then decide (a ≤ 1073741824) else false) = LV.bool false := by simp; omega
  have f3 : lrun prog C0 (lcall prog C0 (n + 99)) (n + 99) 46 [.int i64 a] (St.mk 0 []) = some (LV.bool false, St.mk 0 []) := drn (fun h => ai (congrArg some f1) <| ai (congrArg some f1) <| ai (f2) <| h) (.s (.a) (.s (.r [.a, .a, .a, .g true (.a), .g true (.a), .v (vOf f2) (.a)]) (.a))) [] .a (by kernel_rfl)
  exact drn (fun h => ai (f3) <| h) (.s (.a) (.s (.s (.r [.a, .f (rOf f3)]) (.a)) .a)) [] .a (by kernel_rfl)
theorem rfree_ok (n : Nat) (rm : Int) (m : ML) (p : PL) (hp : p.length ≤ 1000) (hm : m.length ≤ 1000000) (a : Int) (h0 : 0 ≤ a) (h1 : a ≤ 1073741824) :
  lrun prog C0 (lcall prog C0 (n + 100)) (n + 100) 28 [rR rm m p, .int .i64 a] ⟨0, []⟩ = some (.tup [rR rm m (p ++ [(a, none)]), .int .i64 0], ⟨0, []⟩) := by
 have f1 : decide (0 ≤ a) = true := by simp; omega
 have f2 : LV.bool (if decide (0 ≤ a) = true then decide (a ≤ 1073741824) else false) = LV.bool true := by simp; omega
 have f3 : lrun prog C0 (lcall prog C0 (n + 99)) (n + 99) 46 [.int i64 a] (St.mk 0 []) = some (LV.bool true, St.mk 0 []) := drn (fun h => ai (congrArg some f1) <| ai (congrArg some f1) <| ai (f2) <| h) (.s (.a) (.s (.r [.a, .a, .a, .g true (.a), .g true (.a), .v (vOf f2) (.a)]) (.a))) [] .a (by kernel_rfl)
 have f4 := and_none (n + 59) rm m p hp hm a
 exact drn (fun h => ai (f3) <| ai (f4) <| h) (.s (.a) (.s (.s (.r [.a, .f (rOf f3)]) (.a)) (.s (.r [.a, .a, .a, .f (rOf f4)]) (.a)))) [] .a (by kernel_rfl)
@[simp] theorem eqbL_cellsR : ∀ m : ML, LV.eqbL (cellsR m) (cellsR m) = true
 | [] => rfl
 | (a, b) :: m => by
  show LV.eqbL (cellR (a, b) :: cellsR m) (cellR (a, b) :: cellsR m) = true
  simp [cellR, LV.eqbL, LV.eqb, eqbL_cellsR m]
@[simp] theorem eqbL_loosR : ∀ p : PL, LV.eqbL (loosR p) (loosR p) = true
 | [] => rfl
 | (a, some b) :: p => by
  show LV.eqbL (looR (a, some b) :: loosR p) (looR (a, some b) :: loosR p) = true
  simp [looR, LV.eqbL, LV.eqb, eqbL_loosR p]
 | (a, none) :: p => by
  show LV.eqbL (looR (a, none) :: loosR p) (looR (a, none) :: loosR p) = true
  simp [looR, LV.eqbL, LV.eqb, eqbL_loosR p]
theorem rdo_write_bad (n : Nat) (at_ cut : Int) (b ks : List Int) (rm : Int) (m : ML) (p : PL) (h : at_ < 0 ∨ 1073741824 < at_) :
  lrun prog C0 (lcall prog C0 (n + 500)) (n + 500) 10 [.ptr 0 0, rR rm m p, opA 0 at_ b ks cut] ⟨1, [(0, dO rm m p)]⟩ = some (.tup [rR rm m p, .bool true], ⟨1, [(0, dO rm m p)]⟩) := by
 have F := fun j => rput_bad j rm m p at_ b h
 have W := fun j => write_bad j at_ b rm m p h
 have f1 := F (n + 399)
 have f2 : LObj.map i64 (List.zip (mapK m) (mapV m)) = LObj.map i64 (mapE m) := by simp
 have f3 : LObj.box 64 [.int i64 rm, .map 5, .sl 2 6 0 (List.length (pnds p)) none] = LObj.box 64 [.int i64 rm, .map 5, .sl 2 6 0 (List.length p) none] := by simp
 have f4 : List.length (pnds p) = List.length p := by simp
 have f5 : LObj.box 64 [.int i64 rm, .omap i64 (List.map (·.1) (mapE m)) (List.map (·.2) (mapE m)), .own 90 2 (pnds p)] = LObj.box 64 [.int i64 rm, .omap i64 (mapK m) (mapV m), .own 90 2 (pnds p)] := by simp
 have f6 := W (n + 479)
 have f7 := of_code (n + 479) [98, 108, 111, 99, 107] at_ 2
 have f8 : LV.eqb (LV.agg [.int i64 rm, .isl 2 (cellsR m), .isl 3 (loosR p)]) (LV.agg [.int i64 rm, .isl 2 (cellsR m), .isl 3 (loosR p)]) = true := by simp
 exact drn (fun h => ai (f1) <| ai (congrArg some f2) <| ai (congrArg some f3) <| ai (f4) <| ai (congrArg some f5) <| ai (f6) <| ai (f7) <| ai (f8) <| ai (f8) <| h) (.s (.a) (.s (.s (.a) (.k (.s (.a) (.c (.s (.r [.a, .a, .a, .a, .a, .f (rOf f1)]) (.s (.d [.x 5 (vOf f2), .x 0 (vOf f3)] [.a, .a, .a, .a, .a, .a, .fr .q [.x 0 (vOf f5)] (rOf f6), .f (rOf f7), .a, .a, .a] [(true, .a), (true, .a)] []) (.a))))))) .a)) [] .a (by kernel_rfl)
theorem rdo_write_long (n : Nat) (at_ cut : Int) (b ks : List Int) (rm : Int) (m : ML) (p : PL) (h0 : 0 ≤ at_) (h1 : at_ ≤ 1073741824) (hb : 64 < b.length) (hb2 : b.length ≤ 1000000) :
  lrun prog C0 (lcall prog C0 (n + 500)) (n + 500) 10 [.ptr 0 0, rR rm m p, opA 0 at_ b ks cut] ⟨1, [(0, dO rm m p)]⟩ = some (.tup [rR rm m p, .bool true], ⟨1, [(0, dO rm m p)]⟩) := by
 have f1 := rput_long (n + 399) rm m p at_ b h0 h1 hb hb2
 have f2 : LObj.map i64 (List.zip (mapK m) (mapV m)) = LObj.map i64 (mapE m) := by simp
 have f3 : LObj.box 64 [.int i64 rm, .map 5, .sl 2 6 0 (List.length (pnds p)) none] = LObj.box 64 [.int i64 rm, .map 5, .sl 2 6 0 (List.length p) none] := by simp
 have f4 : List.length (pnds p) = List.length p := by simp
 have f5 : LObj.box 64 [.int i64 rm, .omap i64 (List.map (·.1) (mapE m)) (List.map (·.2) (mapE m)), .own 90 2 (pnds p)] = LObj.box 64 [.int i64 rm, .omap i64 (mapK m) (mapV m), .own 90 2 (pnds p)] := by simp
 have f6 := write_long (n + 479) at_ b rm m p h0 h1 hb hb2
 have f7 := of_code (n + 479) [115, 105, 122, 101] ((b.length : Int)) 6
 have f8 : LV.eqb (LV.agg [.int i64 rm, .isl 2 (cellsR m), .isl 3 (loosR p)]) (LV.agg [.int i64 rm, .isl 2 (cellsR m), .isl 3 (loosR p)]) = true := by simp
 exact drn (fun h => ai (f1) <| ai (congrArg some f2) <| ai (congrArg some f3) <| ai (f4) <| ai (congrArg some f5) <| ai (f6) <| ai (f7) <| ai (f8) <| ai (f8) <| h) (.s (.a) (.s (.s (.a) (.k (.s (.a) (.c (.s (.r [.a, .a, .a, .a, .a, .f (rOf f1)]) (.s (.d [.x 5 (vOf f2), .x 0 (vOf f3)] [.a, .a, .a, .a, .a, .a, .fr .q [.x 0 (vOf f5)] (rOf f6), .f (rOf f7), .a, .a, .a] [(true, .a), (true, .a)] []) (.a))))))) .a)) [] .a (by kernel_rfl)
theorem rdo_write_full (n : Nat) (at_ cut : Int) (b ks : List Int) (rm : Int) (m : ML) (p : PL) (hn : 300 < n)
  (F : ∀ j, 300 < j → lrun prog C0 (lcall prog C0 (j + 100)) (j + 100) 26 [rR rm m p, .int .i64 at_, .isl 1 (bys b)] ⟨0, []⟩ = some (.tup [rR rm m p, .int .i64 7], ⟨0, []⟩))
  (W : ∀ k, lrun prog C0 (lcall prog C0 (k + 20)) (k + 20) 19 [.ptr 0 0, .int .i64 at_, .isl 1 (bys b)] ⟨1, [(0, dO rm m p)]⟩ = some (flt [98,108,111,99,107] at_ 7, ⟨1, [(0, dO rm m p)]⟩)) :
  lrun prog C0 (lcall prog C0 (n + 500)) (n + 500) 10 [.ptr 0 0, rR rm m p, opA 0 at_ b ks cut] ⟨1, [(0, dO rm m p)]⟩ = some (.tup [rR rm m p, .bool true], ⟨1, [(0, dO rm m p)]⟩) := by
 have f1 := F (n + 399) (by omega)
 have f2 : LObj.map i64 (List.zip (mapK m) (mapV m)) = LObj.map i64 (mapE m) := by simp
 have f3 : LObj.box 64 [.int i64 rm, .map 5, .sl 2 6 0 (List.length (pnds p)) none] = LObj.box 64 [.int i64 rm, .map 5, .sl 2 6 0 (List.length p) none] := by simp
 have f4 : List.length (pnds p) = List.length p := by simp
 have f5 : LObj.box 64 [.int i64 rm, .omap i64 (List.map (·.1) (mapE m)) (List.map (·.2) (mapE m)), .own 90 2 (pnds p)] = LObj.box 64 [.int i64 rm, .omap i64 (mapK m) (mapV m), .own 90 2 (pnds p)] := by simp
 have f6 := W (n + 479)
 have f7 := of_code (n + 479) [98, 108, 111, 99, 107] at_ 7
 have f8 : LV.eqb (LV.agg [.int i64 rm, .isl 2 (cellsR m), .isl 3 (loosR p)]) (LV.agg [.int i64 rm, .isl 2 (cellsR m), .isl 3 (loosR p)]) = true := by simp
 exact drn (fun h => ai (f1) <| ai (congrArg some f2) <| ai (congrArg some f3) <| ai (f4) <| ai (congrArg some f5) <| ai (f6) <| ai (f7) <| ai (f8) <| ai (f8) <| h) (.s (.a) (.s (.s (.a) (.k (.s (.a) (.c (.s (.r [.a, .a, .a, .a, .a, .f (rOf f1)]) (.s (.d [.x 5 (vOf f2), .x 0 (vOf f3)] [.a, .a, .a, .a, .a, .a, .fr .q [.x 0 (vOf f5)] (rOf f6), .f (rOf f7), .a, .a, .a] [(true, .a), (true, .a)] []) (.a))))))) .a)) [] .a (by kernel_rfl)
theorem rdo_write_ok (n : Nat) (at_ cut : Int) (b ks : List Int) (rm : Int) (m : ML) (p p' : PL) (hn : 300 < n)
  (F : ∀ j, 300 < j → lrun prog C0 (lcall prog C0 (j + 100)) (j + 100) 26 [rR rm m p, .int .i64 at_, .isl 1 (bys b)] ⟨0, []⟩ = some (.tup [rR rm m p', .int .i64 0], ⟨0, []⟩))
  (W : ∀ k, lrun prog C0 (lcall prog C0 (k + 20)) (k + 20) 19 [.ptr 0 0, .int .i64 at_, .isl 1 (bys b)] ⟨1, [(0, dO rm m p)]⟩ = some (.nili, ⟨1, [(0, dO rm m p')]⟩)) :
  lrun prog C0 (lcall prog C0 (n + 500)) (n + 500) 10 [.ptr 0 0, rR rm m p, opA 0 at_ b ks cut] ⟨1, [(0, dO rm m p)]⟩ = some (.tup [rR rm m p', .bool true], ⟨1, [(0, dO rm m p')]⟩) := by
 have f1 := F (n + 399) (by omega)
 have f2 : LObj.map i64 (List.zip (mapK m) (mapV m)) = LObj.map i64 (mapE m) := by simp
 have f3 : LObj.box 64 [.int i64 rm, .map 5, .sl 2 6 0 (List.length (pnds p)) none] = LObj.box 64 [.int i64 rm, .map 5, .sl 2 6 0 (List.length p) none] := by simp
 have f4 : List.length (pnds p) = List.length p := by simp
 have f5 : LObj.box 64 [.int i64 rm, .omap i64 (List.map (·.1) (mapE m)) (List.map (·.2) (mapE m)), .own 90 2 (pnds p)] = LObj.box 64 [.int i64 rm, .omap i64 (mapK m) (mapV m), .own 90 2 (pnds p)] := by simp
 have f6 := W (n + 479)
 have f7 := of_nil (n + 479)
 have f8 : LV.eqb (LV.agg [.int i64 rm, .isl 2 (cellsR m), .isl 3 (loosR p')]) (LV.agg [.int i64 rm, .isl 2 (cellsR m), .isl 3 (loosR p')]) = true := by simp
 exact drn (fun h => ai (f1) <| ai (congrArg some f2) <| ai (congrArg some f3) <| ai (f4) <| ai (congrArg some f5) <| ai (f6) <| ai (f7) <| ai (f8) <| ai (f8) <| h) (.s (.a) (.s (.s (.a) (.k (.s (.a) (.c (.s (.r [.a, .a, .a, .a, .a, .f (rOf f1)]) (.s (.d [.x 5 (vOf f2), .x 0 (vOf f3)] [.a, .a, .a, .a, .a, .a, .fr .q [.x 0 (vOf f5)] (rOf f6), .f (rOf f7), .a, .a, .a] [(true, .a), (true, .a)] []) (.a))))))) .a)) [] .a (by kernel_rfl)
theorem rdo_free_bad (n : Nat) (at_ cut : Int) (b ks : List Int) (rm : Int) (m : ML) (p : PL) (h : at_ < 0 ∨ 1073741824 < at_) :
  lrun prog C0 (lcall prog C0 (n + 500)) (n + 500) 10 [.ptr 0 0, rR rm m p, opA 1 at_ b ks cut] ⟨1, [(0, dO rm m p)]⟩ = some (.tup [rR rm m p, .bool true], ⟨1, [(0, dO rm m p)]⟩) := by
 have F := fun j => rfree_bad j rm m p at_ h
 rcases h with h | h
 ·have f1 := F (n + 399)
  have f2 : LObj.map i64 (List.zip (mapK m) (mapV m)) = LObj.map i64 (mapE m) := by simp
  have f3 : LObj.box 64 [.int i64 rm, .map 5, .sl 2 6 0 (List.length (pnds p)) none] = LObj.box 64 [.int i64 rm, .map 5, .sl 2 6 0 (List.length p) none] := by simp
  have f4 : List.length (pnds p) = List.length p := by simp
  have f5 : LObj.box 64 [.int i64 rm, .omap i64 (List.map (·.1) (mapE m)) (List.map (·.2) (mapE m)), .own 90 2 (pnds p)] = LObj.box 64 [.int i64 rm, .omap i64 (mapK m) (mapV m), .own 90 2 (pnds p)] := by simp
  have f6 := free_bad (n + 479) at_ rm m p (by omega)
  have f7 := of_code (n + 479) [98, 108, 111, 99, 107] at_ 2
  have f8 : LV.eqb (LV.agg [.int i64 rm, .isl 2 (cellsR m), .isl 3 (loosR p)]) (LV.agg [.int i64 rm, .isl 2 (cellsR m), .isl 3 (loosR p)]) = true := by simp
  exact drn (fun h => ai (f1) <| ai (congrArg some f2) <| ai (congrArg some f3) <| ai (f4) <| ai (congrArg some f5) <| ai (f6) <| ai (f7) <| ai (f8) <| ai (f8) <| h) (.s (.a) (.s (.s (.a) (.k (.s (.a) (.c (.s (.a) (.c (.s (.r [.a, .a, .a, .f (rOf f1)]) (.s (.d [.x 5 (vOf f2), .x 0 (vOf f3)] [.a, .a, .a, .a, .fr .q [.x 0 (vOf f5)] (rOf f6), .f (rOf f7), .a, .a, .a] [(true, .a), (true, .a)] []) (.a))))))))) .a)) [] .a (by kernel_rfl)
 ·have f1 := F (n + 399)
  have f2 : LObj.map i64 (List.zip (mapK m) (mapV m)) = LObj.map i64 (mapE m) := by simp
  have f3 : LObj.box 64 [.int i64 rm, .map 5, .sl 2 6 0 (List.length (pnds p)) none] = LObj.box 64 [.int i64 rm, .map 5, .sl 2 6 0 (List.length p) none] := by simp
  have f4 : List.length (pnds p) = List.length p := by simp
  have f5 : LObj.box 64 [.int i64 rm, .omap i64 (List.map (·.1) (mapE m)) (List.map (·.2) (mapE m)), .own 90 2 (pnds p)] = LObj.box 64 [.int i64 rm, .omap i64 (mapK m) (mapV m), .own 90 2 (pnds p)] := by simp
  have f6 := free_bad (n + 479) at_ rm m p (by omega)
  have f7 := of_code (n + 479) [98, 108, 111, 99, 107] at_ 2
  have f8 : LV.eqb (LV.agg [.int i64 rm, .isl 2 (cellsR m), .isl 3 (loosR p)]) (LV.agg [.int i64 rm, .isl 2 (cellsR m), .isl 3 (loosR p)]) = true := by simp
  exact drn (fun h => ai (f1) <| ai (congrArg some f2) <| ai (congrArg some f3) <| ai (f4) <| ai (congrArg some f5) <| ai (f6) <| ai (f7) <| ai (f8) <| ai (f8) <| h) (.s (.a) (.s (.s (.a) (.k (.s (.a) (.c (.s (.a) (.c (.s (.r [.a, .a, .a, .f (rOf f1)]) (.s (.d [.x 5 (vOf f2), .x 0 (vOf f3)] [.a, .a, .a, .a, .fr .q [.x 0 (vOf f5)] (rOf f6), .f (rOf f7), .a, .a, .a] [(true, .a), (true, .a)] []) (.a))))))))) .a)) [] .a (by kernel_rfl)
theorem rdo_free_ok (n : Nat) (at_ cut : Int) (b ks : List Int) (rm : Int) (m : ML) (p : PL) (h0 : 0 ≤ at_) (h1 : at_ ≤ 1073741824) (hp : p.length ≤ 1000) (hm : m.length ≤ 1000000) :
  lrun prog C0 (lcall prog C0 (n + 500)) (n + 500) 10 [.ptr 0 0, rR rm m p, opA 1 at_ b ks cut] ⟨1, [(0, dO rm m p)]⟩ = some (.tup [rR rm m (p ++ [(at_, none)]), .bool true], ⟨1, [(0, dO rm m (p ++ [(at_, none)]))]⟩) := by
 have f1 := rfree_ok (n + 399) rm m p hp hm at_ h0 h1
 have f2 : LObj.map i64 (List.zip (mapK m) (mapV m)) = LObj.map i64 (mapE m) := by simp
 have f3 : LObj.box 64 [.int i64 rm, .map 5, .sl 2 6 0 (List.length (pnds p)) none] = LObj.box 64 [.int i64 rm, .map 5, .sl 2 6 0 (List.length p) none] := by simp
 have f4 : List.length (pnds p) = List.length p := by simp
 have f5 : LObj.box 64 [.int i64 rm, .omap i64 (List.map (·.1) (mapE m)) (List.map (·.2) (mapE m)), .own 90 2 (pnds p)] = LObj.box 64 [.int i64 rm, .omap i64 (mapK m) (mapV m), .own 90 2 (pnds p)] := by simp
 have f6 := free_ok (n + 479) at_ rm m p h0 h1 (by omega)
 have f7 := of_nil (n + 479)
 have f8 : LV.eqb (LV.agg [.int i64 rm, .isl 2 (cellsR m), .isl 3 (loosR (p ++ [(at_, none)]))]) (LV.agg [.int i64 rm, .isl 2 (cellsR m), .isl 3 (loosR (p ++ [(at_, none)]))]) = true := by simp
 exact drn (fun h => ai (f1) <| ai (congrArg some f2) <| ai (congrArg some f3) <| ai (f4) <| ai (congrArg some f5) <| ai (f6) <| ai (f7) <| ai (f8) <| ai (f8) <| h) (.s (.a) (.s (.s (.a) (.k (.s (.a) (.c (.s (.a) (.c (.s (.r [.a, .a, .a, .f (rOf f1)]) (.s (.d [.x 5 (vOf f2), .x 0 (vOf f3)] [.a, .a, .a, .a, .fr .q [.x 0 (vOf f5)] (rOf f6), .f (rOf f7), .a, .a, .a] [(true, .a), (true, .a)] []) (.a))))))))) .a)) [] .a (by kernel_rfl)
theorem rdo_sync (n : Nat) (at_ cut : Int) (b ks : List Int) (rm : Int) (m m' : ML) (p : PL) (hn : 300 < n)
  (F : ∀ j, 300 < j → lrun prog C0 (lcall prog C0 (j + 60)) (j + 60) 30 [rR rm m p] ⟨0, []⟩ = some (rR rm m' [], ⟨0, []⟩))
  (Y : ∀ k, 110 ≤ k + 70 → lrun prog C0 (lcall prog C0 (k + 70)) (k + 70) 17 [.ptr 0 0] ⟨1, [(0, dO rm m p)]⟩ = some (.tup [], ⟨1, [(0, dO rm m' [])]⟩)) :
  lrun prog C0 (lcall prog C0 (n + 500)) (n + 500) 10 [.ptr 0 0, rR rm m p, opA 3 at_ b ks cut] ⟨1, [(0, dO rm m p)]⟩ = some (.tup [rR rm m' [], .bool true], ⟨1, [(0, dO rm m' [])]⟩) := by
 have f1 := Y (n + 429) (by omega)
 have f2 := F (n + 439) (by omega)
 exact drn (fun h => ai (f1) <| ai (f2) <| h) (.s (.a) (.s (.s (.a) (.k (.s (.a) (.c (.s (.a) (.c (.s (.a) (.c (.s (.a) (.c (.s (.r [.a, .f (rOf f1)]) (.s (.r [.a, .f (rOf f2)]) (.a))))))))))))) .a)) [] .a (by kernel_rfl)
theorem rdo_crash (n : Nat) (at_ cut : Int) (b ks : List Int) (rm : Int) (m m' : ML) (p : PL) (hn : 300 < n)
  (F : ∀ j, lrun prog C0 (lcall prog C0 (j + 10)) (j + 10) 31 [rR rm m p, .isl 1 (ints ks), .int .i64 cut] ⟨0, []⟩ = some (rR rm m' [], ⟨0, []⟩))
  (Y : ∀ k, 110 ≤ k + 70 → lrun prog C0 (lcall prog C0 (k + 70)) (k + 70) 20 [.ptr 0 0, .isl 1 (ints ks), .int .i64 cut] ⟨1, [(0, dO rm m p)]⟩ = some (.tup [], ⟨1, [(0, dO rm m' [])]⟩)) :
  lrun prog C0 (lcall prog C0 (n + 500)) (n + 500) 10 [.ptr 0 0, rR rm m p, opA 4 at_ b ks cut] ⟨1, [(0, dO rm m p)]⟩ = some (.tup [rR rm m' [], .bool true], ⟨1, [(0, dO rm m' [])]⟩) := by
 have f1 := Y (n + 429) (by omega)
 have f2 := F (n + 489)
 exact drn (fun h => ai (f1) <| ai (f2) <| h) (.s (.a) (.s (.s (.a) (.k (.s (.a) (.c (.s (.a) (.c (.s (.a) (.c (.s (.a) (.c (.s (.a) (.c (.s (.r [.a, .a, .a, .a, .a, .f (rOf f1)]) (.s (.r [.a, .a, .a, .a, .a, .f (rOf f2)]) (.a))))))))))))))) .a)) [] .a (by kernel_rfl)
theorem rdo_wipe (n : Nat) (at_ cut : Int) (b ks : List Int) (rm : Int) (m : ML) (p : PL) :
  lrun prog C0 (lcall prog C0 (n + 500)) (n + 500) 10 [.ptr 0 0, rR rm m p, opA 5 at_ b ks cut] ⟨1, [(0, dO rm m p)]⟩ = some (.tup [rE rm [], .bool true], ⟨1, [(0, dO rm [] [])]⟩) := by
 have f1 := wipe_ok (n + 479) rm m p
 exact drn (fun h => ai (f1) <| h) (.s (.a) (.s (.s (.a) (.k (.s (.a) (.c (.s (.a) (.c (.s (.a) (.c (.s (.a) (.c (.s (.a) (.c (.s (.a) (.c (.s (.r [.a, .f (rOf f1)]) (.a)))))))))))))))) .a)) [] .a (by kernel_rfl)
theorem rdo_id (n : Nat) (k at_ cut : Int) (b ks : List Int) (rm : Int) (m : ML) (p : PL) (k0 : ¬ k = 0) (k1 : ¬ k = 1) (k2 : ¬ k = 2) (k3 : ¬ k = 3) (k4 : ¬ k = 4) (k5 : ¬ k = 5) :
  lrun prog C0 (lcall prog C0 (n + 500)) (n + 500) 10 [.ptr 0 0, rR rm m p, opA k at_ b ks cut] ⟨1, [(0, dO rm m p)]⟩ = some (.tup [rR rm m p, .bool true], ⟨1, [(0, dO rm m p)]⟩) := by
 have f1 : decide (k = 0) = false := by simp; omega
 have f2 : decide (k = 1) = false := by simp; omega
 have f3 : decide (k = 2) = false := by simp; omega
 have f4 : decide (k = 3) = false := by simp; omega
 have f5 : decide (k = 4) = false := by simp; omega
 have f6 : decide (k = 5) = false := by simp; omega
 exact drn (fun h => ai (congrArg LV.bool f1) <| ai (congrArg LV.bool f2) <| ai (congrArg LV.bool f3) <| ai (congrArg LV.bool f4) <| ai (congrArg LV.bool f5) <| ai (congrArg LV.bool f6) <| h) (.s (.a) (.s (.s (.a) (.k (.s (.a) (.b false (.s (.a) (.b false (.s (.a) (.b false (.s (.a) (.b false (.s (.a) (.b false (.s (.a) (.b false (.a))))))))))))))) (.a))) [] .a (by kernel_rfl)
theorem rdo_read_bad (n : Nat) (at_ cut : Int) (b ks : List Int) (rm : Int) (m : ML) (p : PL) (h : at_ < 0 ∨ 1073741824 < at_) (hp : p.length ≤ 1000) (ho : okP p) (hn : 300 < n)
  (S : ∀ k, 64 < k + 20 → lrun prog C0 (lcall prog C0 (k + 20)) (k + 20) 21 [.isl 1 (bys []), .isl 1 (bys [])] ⟨0, []⟩ = some (.bool true, ⟨0, []⟩)) :
  lrun prog C0 (lcall prog C0 (n + 500)) (n + 500) 10 [.ptr 0 0, rR rm m p, opA 2 at_ b ks cut] ⟨1, [(0, dO rm m p)]⟩ = some (.tup [rR rm m p, .bool true], ⟨1, [(0, dO rm m p)]⟩) := by
 rcases h with h | h
 ·have f1 := dread_bad (n + 499) at_ rm m p (by omega) (by omega) ho
  have f2 : decide (0 ≤ at_) = false := by simp; omega
  have f3 : lpick (decide (0 ≤ at_)) LV.any (LV.bool false) = some (LV.bool false) := by simp; omega
  have f4 : lrun prog C0 (lcall prog C0 (n + 498)) (n + 498) 46 [.int i64 at_] (St.mk 0 []) = some (LV.bool false, St.mk 0 []) := drn (fun h => ai (congrArg some f2) <| ai (congrArg some f2) <| ai (x_map (st := (St.mk 0 [])) f3) <| h) (.s (.a) (.s (.r [.a, .a, .a, .g false (.a), .g false (.a), .t (rOf (x_map (st := (St.mk 0 [])) f3))]) (.a))) [] .a (by kernel_rfl)
  have f5 : lrun prog C0 (lcall prog C0 (n + 499)) (n + 499) 29 [.agg [.int i64 rm, .isl 2 (cellsR m), .isl 3 (loosR p)], .int i64 at_] (St.mk 0 []) = some (LV.tup [.isl 1 [], .int i64 2], St.mk 0 []) := drn (fun h => ai (f4) <| h) (.s (.a) (.s (.s (.r [.a, .f (rOf f4)]) (.a)) .a)) [] .a (by kernel_rfl)
  have f6 : LObj.map i64 (List.zip (mapK m) (mapV m)) = LObj.map i64 (mapE m) := by simp
  have f7 : LObj.box 64 [.int i64 rm, .map 4, .sl 2 5 0 (List.length (pnds p)) none] = LObj.box 64 [.int i64 rm, .map 4, .sl 2 5 0 (List.length p) none] := by simp
  have f8 := of_code (n + 479) [98, 108, 111, 99, 107] at_ 2
  have f9 := S (n + 479) (by omega)
  have f10 : List.length (pnds p) = List.length p := by simp
  have f11 : (LV.tup [.agg [.int i64 rm, .isl 2 (cellsR m), .isl 3 (loosR p)], .bool true], St.mk 1 [(0, LObj.box 64 [.int i64 rm, .omap i64 (List.map (·.1) (mapE m)) (List.map (·.2) (mapE m)), .own 90 2 (pnds p)])]) = (LV.tup [rR rm m p, .bool true], St.mk 1 [(0, dO rm m p)]) := by simp
  exact drn (fun h => ai (f1) <| ai (f5) <| ai (congrArg some f6) <| ai (congrArg some f7) <| ai (f8) <| ai (f9) <| ai (f10) <| f11) (.s (.a) (.s (.s (.a) (.k (.s (.a) (.c (.s (.a) (.c (.s (.a) (.c (.s (.r [.a, .a, .a, .f (rOf f1)]) (.s (.r [.a, .a, .a, .f (rOf f5)]) (.s (.d [.x 4 (vOf f6), .x 0 (vOf f7)] [.a, .a, .f (rOf f8), .a, .a, .a, .a, .a, .f (rOf f9), .a, .a] [] []) (.a)))))))))))) .a)) [] .q (by kernel_rfl)
 ·have f1 := dread_bad (n + 499) at_ rm m p (by omega) (by omega) ho
  have f2 : decide (0 ≤ at_) = true := by simp; omega
  have f3 : LV.bool (if decide (0 ≤ at_) = true then decide (at_ ≤ 1073741824) else false) = LV.bool false := by simp; omega
  have f4 : lrun prog C0 (lcall prog C0 (n + 498)) (n + 498) 46 [.int i64 at_] (St.mk 0 []) = some (LV.bool false, St.mk 0 []) := drn (fun h => ai (congrArg some f2) <| ai (congrArg some f2) <| ai (f3) <| h) (.s (.a) (.s (.r [.a, .a, .a, .g true (.a), .g true (.a), .v (vOf f3) (.a)]) (.a))) [] .a (by kernel_rfl)
  have f5 : lrun prog C0 (lcall prog C0 (n + 499)) (n + 499) 29 [.agg [.int i64 rm, .isl 2 (cellsR m), .isl 3 (loosR p)], .int i64 at_] (St.mk 0 []) = some (LV.tup [.isl 1 [], .int i64 2], St.mk 0 []) := drn (fun h => ai (f4) <| h) (.s (.a) (.s (.s (.r [.a, .f (rOf f4)]) (.a)) .a)) [] .a (by kernel_rfl)
  have f6 : LObj.map i64 (List.zip (mapK m) (mapV m)) = LObj.map i64 (mapE m) := by simp
  have f7 : LObj.box 64 [.int i64 rm, .map 4, .sl 2 5 0 (List.length (pnds p)) none] = LObj.box 64 [.int i64 rm, .map 4, .sl 2 5 0 (List.length p) none] := by simp
  have f8 := of_code (n + 479) [98, 108, 111, 99, 107] at_ 2
  have f9 := S (n + 479) (by omega)
  have f10 : List.length (pnds p) = List.length p := by simp
  have f11 : (LV.tup [.agg [.int i64 rm, .isl 2 (cellsR m), .isl 3 (loosR p)], .bool true], St.mk 1 [(0, LObj.box 64 [.int i64 rm, .omap i64 (List.map (·.1) (mapE m)) (List.map (·.2) (mapE m)), .own 90 2 (pnds p)])]) = (LV.tup [rR rm m p, .bool true], St.mk 1 [(0, dO rm m p)]) := by simp
  exact drn (fun h => ai (f1) <| ai (f5) <| ai (congrArg some f6) <| ai (congrArg some f7) <| ai (f8) <| ai (f9) <| ai (f10) <| f11) (.s (.a) (.s (.s (.a) (.k (.s (.a) (.c (.s (.a) (.c (.s (.a) (.c (.s (.r [.a, .a, .a, .f (rOf f1)]) (.s (.r [.a, .a, .a, .f (rOf f5)]) (.s (.d [.x 4 (vOf f6), .x 0 (vOf f7)] [.a, .a, .f (rOf f8), .a, .a, .a, .a, .a, .f (rOf f9), .a, .a] [] []) (.a)))))))))))) .a)) [] .q (by kernel_rfl)
theorem rdo_read_ok (n : Nat) (at_ cut : Int) (b ks : List Int) (rm : Int) (m : ML) (p : PL) (h0 : 0 ≤ at_) (h1 : at_ ≤ 1073741824) (hp : p.length ≤ 1000) (ho : okP p) (hn : 300 < n)
  (F : ∀ j, 300 < j → lrun prog C0 (lcall prog C0 (j + 40)) (j + 40) 29 [rR rm m p, .int .i64 at_] ⟨0, []⟩ = some (.tup [.isl 1 (bys (rd m p at_)), .int .i64 0], ⟨0, []⟩))
  (S : ∀ k, 64 < k + 20 → lrun prog C0 (lcall prog C0 (k + 20)) (k + 20) 21 [.isl 1 (bys (rd m p at_)), .isl 1 (bys (rd m p at_))] ⟨0, []⟩ = some (.bool true, ⟨0, []⟩)) :
  lrun prog C0 (lcall prog C0 (n + 500)) (n + 500) 10 [.ptr 0 0, rR rm m p, opA 2 at_ b ks cut] ⟨1, [(0, dO rm m p)]⟩ = some (.tup [rR rm m p, .bool true], ⟨1, [(0, dO rm m p)]⟩) := by
 have f1 := dread_ok (n + 499) rm m p at_ h0 h1 (by omega) ho
 have f2 := F (n + 459) (by omega)
 have f3 : LObj.map i64 (List.zip (mapK m) (mapV m)) = LObj.map i64 (mapE m) := by simp
 have f4 : LObj.box 64 [.int i64 rm, .map 4, .sl 2 5 0 (List.length (pnds p)) none] = LObj.box 64 [.int i64 rm, .map 4, .sl 2 5 0 (List.length p) none] := by simp
 have f5 := of_nil (n + 479)
 have f6 := S (n + 479) (by omega)
 have f7 : List.length (pnds p) = List.length p := by simp
 have f8 : (LV.tup [.agg [.int i64 rm, .isl 2 (cellsR m), .isl 3 (loosR p)], .bool true], St.mk 1 [(0, LObj.box 64 [.int i64 rm, .omap i64 (List.map (·.1) (mapE m)) (List.map (·.2) (mapE m)), .own 90 2 (pnds p)])]) = (LV.tup [rR rm m p, .bool true], St.mk 1 [(0, dO rm m p)]) := by simp
 exact drn (fun h => ai (f1) <| ai (f2) <| ai (congrArg some f3) <| ai (congrArg some f4) <| ai (f5) <| ai (f6) <| ai (f7) <| f8) (.s (.a) (.s (.s (.a) (.k (.s (.a) (.c (.s (.a) (.c (.s (.a) (.c (.s (.r [.a, .a, .a, .f (rOf f1)]) (.s (.r [.a, .a, .a, .f (rOf f2)]) (.s (.d [.x 4 (vOf f3), .x 0 (vOf f4)] [.a, .a, .f (rOf f5), .a, .a, .a, .a, .a, .f (rOf f6), .a, .a] [] []) (.a)))))))))))) .a)) [] .q (by kernel_rfl)
theorem needs_len_le (m : ML) (p : PL) : (needs m p).length ≤ m.length + p.length := by
 rw [needs_length]
 have := sub_len (l := keysL (needs m p)) (k := mapK m ++ p.map (·.1)) (needs_nodup m p) (fun a ha => by
  rw [needs_mem] at ha
  rcases ha with h | ⟨b, h⟩
  ·exact List.mem_append.2 (.inl h)
  ·exact List.mem_append.2 (.inr (List.mem_map.2 ⟨_, h, rfl⟩)))
 simpa [mapK] using this
theorem apply_len {m : ML} {p : PL} (hm : okM m) (hq : okQ p) : (applyM p m).length ≤ m.length + p.length := by
 have h1 := sync_needs m p
 rw [needs_of _ (hm.apply hq).1] at h1
 exact Nat.le_trans h1 (needs_len_le m p)
theorem crash_len {m : ML} {p : PL} (hm : okM m) (hq : okQ p) (ks : List Int) (cut : Int) : (crashD m p ks cut).length ≤ m.length + p.length := by
 have h1 := crash_needs m p hq hm ks cut
 have hA : Asc (crashD m p ks cut) := (crashM_ok ks cut _ p 0 m hq hm).1.1
 rw [needs_of _ hA] at h1
 exact Nat.le_trans h1 (needs_len_le m p)
theorem do_ref (rm : Int) (m : ML) (p : PL) (hm : okM m) (hq : okQ p) (hl : m.length + p.length ≤ 60) (x : Act5) (hx : Light x = true) :
  ∃ (m' : ML) (p' : PL), okM m' ∧ okQ p' ∧ m'.length + p'.length ≤ m.length + p.length + 1 ∧
   ∀ j, 300 < j → lrun prog C0 (lcall prog C0 (j + 500)) (j + 500) 10 [.ptr 0 0, rR rm m p, opA x.kind x.at_ x.b x.keep x.cut] ⟨1, [(0, dO rm m p)]⟩ = some (.tup [rR rm m' p', .bool true], ⟨1, [(0, dO rm m' p')]⟩) := by
 obtain ⟨kind, a, b, ks, cut⟩ := x
 simp only [Light, Bool.and_eq_true, decide_eq_true_eq] at hx
 obtain ⟨hb, hks⟩ := hx
 simp only
 by_cases k0 : kind = 0
 ·subst k0
  by_cases ha : inR a
  ·by_cases hb64 : b.length ≤ 64
   ·have T := fun j (hj : 200 < j) => taken_any j rm m p (by omega) (by omega) a (by omega) (by omega)
    have U := fun j (hj : 200 < j) => used_ref j rm m p (by omega) (by omega) hm.1 hj
    rcases write_any rm m p (by omega) hq a ha b hb64 with ⟨u, e1, e2, e3, W⟩ | ⟨e1, e2, W⟩
    ·refine ⟨m, p ++ [(a, some (blk b))], hm, hq.snoc ha _ (fun c hc => by injection hc with hc; subst hc; simp), by simp; omega, fun j hj => rdo_write_ok j a cut b ks rm m p _ hj (fun k hk => ?_) W⟩
     by_cases hk2 : a ∈ keysL (needs m p)
     ·rw [decide_eq_true hk2] at T
      exact rput_okT k rm m p (by omega) (by omega) a b ha.1 ha.2 hb64 hk T
     ·rw [decide_eq_false hk2] at T
      exact rput_okF k rm m p (by omega) (by omega) a b ha.1 ha.2 hb64 _ (e3.resolve_left hk2) hk T U
    ·rw [decide_eq_false e1] at T
     exact ⟨m, p, hm, hq, by omega, fun j hj => rdo_write_full j a cut b ks rm m p hj (fun k hk => rput_full k rm m p a b ha.1 ha.2 hb64 _ e2 hk T U) W⟩
   ·exact ⟨m, p, hm, hq, by omega, fun j hj => rdo_write_long j a cut b ks rm m p ha.1 ha.2 (by omega) (by omega)⟩
  ·exact ⟨m, p, hm, hq, by omega, fun j hj => rdo_write_bad j a cut b ks rm m p (inR_not ha)⟩
 by_cases k1 : kind = 1
 ·subst k1
  by_cases ha : inR a
  ·exact ⟨m, p ++ [(a, none)], hm, hq.snoc ha _ (fun c hc => by simp at hc), by simp; omega, fun j hj => rdo_free_ok j a cut b ks rm m p ha.1 ha.2 (by omega) (by omega)⟩
  ·exact ⟨m, p, hm, hq, by omega, fun j hj => rdo_free_bad j a cut b ks rm m p (inR_not ha)⟩
 by_cases k2 : kind = 2
 ·subst k2
  by_cases ha : inR a
  ·exact ⟨m, p, hm, hq, by omega, fun j hj => rdo_read_ok j a cut b ks rm m p ha.1 ha.2 (by omega) hq.ok64.okP hj (fun k hk => read_any k rm m p (by omega) (by omega) hq.ok64 (fun y hy => (hm.2 y hy).2) a ha.1 ha.2 (by omega) (by omega)) (fun k hk => by
    have := same_any k (rd m p a) (rd m p a) (by rw [rd_length]; omega) (by rw [rd_length]; omega) (by rw [rd_length]; exact hk)
    simpa using this)⟩
  ·exact ⟨m, p, hm, hq, by omega, fun j hj => rdo_read_bad j a cut b ks rm m p (inR_not ha) (by omega) hq.ok64.okP hj (fun k hk => by
    have := same_any k [] [] (by simp) (by simp) (by simp)
    simpa using this)⟩
 by_cases k3 : kind = 3
 ·subst k3
  exact ⟨applyM p m, [], hm.apply hq, okQ.nil, by have := apply_len hm hq; simp; omega, fun j hj => rdo_sync j a cut b ks rm m _ p hj (fun k hk => sync_ref k rm m p (by omega) (by omega) hm.1 (by omega)) (fun k hk => by have := sync_any (k + 29) rm m p (by omega) (by omega) hq.ok64; exact this)⟩
 by_cases k4 : kind = 4
 ·subst k4
  exact ⟨crashD m p ks cut, [], (crashM_ok ks cut _ p 0 m hq hm).1, okQ.nil, by have := crash_len hm hq ks cut; simp; omega, fun j hj => rdo_crash j a cut b ks rm m _ p hj (fun k => crash_c0 k rm m p (by omega) (by omega) hq hm ks cut) (fun k hk => crash_any (k + 10) rm m p (by omega) (by omega) hq.ok64 ks cut)⟩
 by_cases k5 : kind = 5
 ·subst k5
  exact ⟨[], [], okM.nil, okQ.nil, by simp, fun j hj => rdo_wipe j a cut b ks rm m p⟩
 exact ⟨m, p, hm, hq, by omega, fun j hj => rdo_id j kind a cut b ks rm m p k0 k1 k2 k3 k4 k5⟩
theorem rd_nil0 (a : Int) : rd [] [] a = List.replicate 64 0 := rfl
theorem do_first (rm : Int) (h0 : 0 ≤ rm) (x : Act5) (hx : Light x = true) :
  ∃ (m' : ML) (p' : PL), okM m' ∧ okQ p' ∧ m'.length + p'.length ≤ 1 ∧
   ∀ j, 300 < j → lrun prog C0 (lcall prog C0 (j + 500)) (j + 500) 10 [.ptr 0 0, rNil rm, opA x.kind x.at_ x.b x.keep x.cut] ⟨1, [(0, dO rm [] [])]⟩ = some (.tup [rR rm m' p', .bool true], ⟨1, [(0, dO rm m' p')]⟩) := by
 obtain ⟨kind, a, b, ks, cut⟩ := x
 simp only [Light, Bool.and_eq_true, decide_eq_true_eq] at hx
 obtain ⟨hb, hks⟩ := hx
 simp only
 have hu0 : (needs [] []).length = 0 := rfl
 by_cases k0 : kind = 0
 ·subst k0
  by_cases ha : inR a
  ·by_cases hb64 : b.length ≤ 64
   ·rcases write_any rm [] [] (by simp) okQ.nil a ha b hb64 with ⟨u, e1, e2, e3, W⟩ | ⟨e1, e2, W⟩
    ·have hpos : 0 < rm := by
      rcases e3 with h | h
      ·exact nomatch h
      ·rw [hu0] at h; simpa using h
     exact ⟨[], [(a, some (blk b))], okM.nil, okQ.nil.snoc ha _ (fun c hc => by injection hc with hc; subst hc; simp), by simp, fun j hj => do_write_ok (j + 420) a cut b ks rm [] [] _ ha.1 ha.2 hb64 hpos W⟩
    ·exact ⟨[], [], okM.nil, okQ.nil, by simp, fun j hj => do_write_full0 (j + 420) a cut b ks rm [] [] ha.1 ha.2 hb64 (by rw [hu0] at e2; simpa using e2) W⟩
   ·exact ⟨[], [], okM.nil, okQ.nil, by simp, fun j hj => do_write_long (j + 420) a cut b ks rm [] [] ha.1 ha.2 (by omega) (by omega)⟩
  ·exact ⟨[], [], okM.nil, okQ.nil, by simp, fun j hj => do_write_bad (j + 420) a cut b ks rm [] [] (inR_not ha)⟩
 by_cases k1 : kind = 1
 ·subst k1
  by_cases ha : inR a
  ·exact ⟨[], [(a, none)], okM.nil, okQ.nil.snoc ha _ (fun c hc => by simp at hc), by simp, fun j hj => do_free_ok (j + 420) a cut b ks rm [] [] ha.1 ha.2 (by simp)⟩
  ·exact ⟨[], [], okM.nil, okQ.nil, by simp, fun j hj => do_free_bad (j + 420) a cut b ks rm [] [] (inR_not ha)⟩
 by_cases k2 : kind = 2
 ·subst k2
  by_cases ha : inR a
  ·exact ⟨[], [], okM.nil, okQ.nil, by simp, fun j hj => do_read_ok (j + 420) a cut b ks rm [] [] ha.1 ha.2 (by simp) okQ.nil.ok64.okP (by omega) true (fun k hk => by
    have := same_any k (rd [] [] a) (List.replicate 64 0) (by rw [rd_length]; omega) (by simp) (by rw [rd_length]; exact hk)
    rw [decide_eq_true (rd_nil0 a)] at this
    exact this)⟩
  ·exact ⟨[], [], okM.nil, okQ.nil, by simp, fun j hj => do_read_bad (j + 420) a cut b ks rm [] [] (inR_not ha) (by simp) okQ.nil.ok64.okP⟩
 by_cases k3 : kind = 3
 ·subst k3
  exact ⟨[], [], okM.nil, okQ.nil, by simp, fun j hj => do_sync (j + 420) a cut b ks rm [] [] [] (by omega) (fun k hk => by have := sync_any (k + 29) rm [] [] (by simp) (by simp) okQ.nil.ok64; exact this)⟩
 by_cases k4 : kind = 4
 ·subst k4
  exact ⟨[], [], okM.nil, okQ.nil, by simp, fun j hj => do_crash (j + 420) a cut b ks rm [] [] [] (fun k => crash_any (k + 10) rm [] [] (by simp) (by simp) okQ.nil.ok64 ks cut)⟩
 by_cases k5 : kind = 5
 ·subst k5
  exact ⟨[], [], okM.nil, okQ.nil, by simp, fun j hj => do_wipe (j + 420) a cut b ks rm [] []⟩
 exact ⟨[], [], okM.nil, okQ.nil, by simp, fun j hj => do_id (j + 420) kind a cut b ks rm [] [] k0 k1 k2 k3 k4 k5⟩
end Go.Mac
namespace Go.Mac
open Go Go.Eng Go.Proofs
open Go.Proofs.Tryd (prog)
set_option maxRecDepth 100000
set_option maxHeartbeats 0
theorem used_ok (n : Nat) (rm : Int) (m : ML) (p : PL) (hp : p.length ≤ 1000000) (ho : okP p) : lrun prog C0 (lcall prog C0 (n + 20)) (n + 20) 14 [.ptr 0 0] ⟨1, [(0, dO rm m p)]⟩ = some (.int .i64 (needs m p).length, ⟨1, [(0, dO rm m p)]⟩) := by
 have f1 := needs_ok (n + 19) rm m p hp ho
 exact drn (fun h => ai (f1) <| h) (.s (.a) (.s (.r [.a, .f (rOf f1)]) (.a))) [] .a (by kernel_rfl)
theorem room_ok (n : Nat) (rm : Int) (m : ML) (p : PL) : lrun prog C0 (lcall prog C0 (n + 20)) (n + 20) 16 [.ptr 0 0] ⟨1, [(0, dO rm m p)]⟩ = some (.int .i64 rm, ⟨1, [(0, dO rm m p)]⟩) := by
 exact drn (fun h => h) (.a) [] .a (by kernel_rfl)
end Go.Mac
namespace Go.Mac
open Go Go.Eng Go.Proofs Go.Mac.Nd
open Go.IntKind (i64)
open Go.Proofs.Tryd (prog)
set_option maxHeartbeats 0
set_option maxRecDepth 100000
abbrev bdS (rm : Int) (m : ML) (p : PL) : St := ⟨2, [(0, dO rm m p), (1, .box 35 [.int .i64 rm, .isl 2 (cellsR m), .isl 3 (loosR p)])]⟩
abbrev bdN (rm : Int) : St := ⟨2, [(0, dO rm [] []), (1, .box 35 [.int .i64 rm, .nils, .nils])]⟩
abbrev bdE (rm : Int) (l : List Act5) (i : Int) : LEnv := [.int i64 rm, .isl 5 (ops5 l), .any, .any, .any, .ptr 0 0, .any, .ptr 1 0, .int i64 i, .any, .any, .any, .any, .any, .any, .any, .any, .any, .any, .any, .any, .any, .any, .any, .any, .any, .any, .any, .any, .any, .any, .any, .any, .any, .any, .any, .any, .any, .any, .any, .any, .any, .any, .any, .any, .any, .any, .any, .any, .any, .any, .any, .any, .any, .any, .any, .any, .any, .any, .any, .any, .any, .any, .any, .any, .any, .any, .any, .any, .any, .any, .any, .any, .any, .any, .any, .any, .any, .any, .any, .any, .any, .any, .any, .any, .any, .any, .any, .any, .any, .any, .any]
abbrev bdX (rm : Int) (l : List Act5) (i : Int) : LEnv := [.int i64 rm, .isl 5 (ops5 l), .any, .any, .any, .ptr 0 0, .any, .ptr 1 0, .int i64 (l.length : Int), .any, .any, .any, .any, .any, .any, .any, .any, .any, .any, .any, .any, .any, .any, .any, .any, .any, .any, .any, .any, .any, .any, .any, .any, .any, .any, .any, .any, .any, .any, .any, .any, .any, .any, .int i64 (l.length : Int), .isl 5 (ops5 l), .int i64 ((ops5 l).length : Int), .bool (decide ((l.length : Int) < ((ops5 l).length : Int))), .any, .any, .any, .any, .any, .any, .any, .any, .any, .any, .any, .any, .any, .any, .any, .any, .any, .any, .any, .any, .any, .any, .any, .any, .any, .any, .any, .any, .any, .any, .any, .any, .any, .any, .any, .any, .any, .any, .any, .any, .any, .any, .any, .any, .any]
theorem bd_step (n fu : Nat) (rm : Int) (l : List Act5) (hl : l.length ≤ 60) (h0 : 0 ≤ rm) (h1 : rm ≤ 1073741824) (i : Int) (hi0 : 0 ≤ i) (hi : i < (l.length : Int)) (k a : Int) (b ks : List Int) (c : Int) (hx : (ops5 l)[i.toNat]? = some (.agg [.int .i64 k, .int .i64 a, .isl 1 (bys b), .isl 1 (ints ks), .int .i64 c]))
  (m m' : ML) (p p' : PL) (hm' : m'.length ≤ 1000) (hp' : p'.length ≤ 1000) (u : Int) (hn : 400 ≤ n)
  (D : ∀ j, 300 < j → lrun prog C0 (lcall prog C0 (j + 500)) (j + 500) 10 [.ptr 0 0, rR rm m p, opA k a b ks c] ⟨1, [(0, dO rm m p)]⟩ = some (.tup [rR rm m' p', .bool true], ⟨1, [(0, dO rm m' p')]⟩))
  (C : ∀ j, 300 < j → lrun prog C0 (lcall prog C0 (j + 60)) (j + 60) 12 [.ptr 0 0] ⟨1, [(0, dO rm m' p')]⟩ = some (.isl 2 (cellsR m'), ⟨1, [(0, dO rm m' p')]⟩))
  (K : ∀ j, 300 < j → lrun prog C0 (lcall prog C0 (j + 40)) (j + 40) 11 [.isl 2 (cellsR m'), .isl 2 (cellsR m')] ⟨0, []⟩ = some (.bool true, ⟨0, []⟩))
  (U : ∀ j, lrun prog C0 (lcall prog C0 (j + 20)) (j + 20) 14 [.ptr 0 0] ⟨1, [(0, dO rm m' p')]⟩ = some (.int .i64 u, ⟨1, [(0, dO rm m' p')]⟩))
  (V : ∀ j, 300 < j → lrun prog C0 (lcall prog C0 (j + 40)) (j + 40) 15 [rR rm m' p'] ⟨0, []⟩ = some (.int .i64 u, ⟨0, []⟩))
  (r : LX × LEnv × St) (hr : loopAt prog C0 (n + 900) 3 0 0 fu (bdE rm l (i + 1)) (bdS rm m' p') = some r) :
  loopAt prog C0 (n + 900) 3 0 0 (fu + 1) (bdE rm l i) (bdS rm m p) = some r := by
 have f1 : decide (i < ((ops5 l).length : Int)) = true := by simp; omega
 have f2 : LV.int i64 ((ops5 l).length : Int) = LV.int i64 (l.length : Int) := by simp
 have f3 : LV.bool (decide (i < ((ops5 l).length : Int))) = LV.bool true := by simp; omega
 have f4 : LObj.map i64 (List.zip (mapK m) (mapV m)) = LObj.map i64 (mapE m) := by simp
 have f5 : LObj.box 64 [.int i64 rm, .map 2, .sl 2 3 0 (List.length (pnds p)) none] = LObj.box 64 [.int i64 rm, .map 2, .sl 2 3 0 (List.length p) none] := by simp
 have f6 : (ops5 l)[i.toNat]? = some (LV.agg [.int i64 k, .int i64 a, .isl 1 (bys b), .isl 1 (ints ks), .int i64 c]) := hx
 have f7 : 0 ≤ i ∧ i < ((ops5 l).length : Int) := by simp; omega
 have f8 : List.length (pnds p) = List.length p := by simp
 have f9 : LObj.box 64 [.int i64 rm, .omap i64 (List.map (·.1) (mapE m)) (List.map (·.2) (mapE m)), .own 90 2 (pnds p)] = LObj.box 64 [.int i64 rm, .omap i64 (mapK m) (mapV m), .own 90 2 (pnds p)] := by simp
 have f10 := D (n + 399) (by omega)
 have f11 : LObj.map i64 (List.zip (mapK m') (mapV m')) = LObj.map i64 (mapE m') := by simp
 have f12 : LObj.box 64 [.int i64 rm, .map 5, .sl 2 6 0 (List.length (pnds p')) none] = LObj.box 64 [.int i64 rm, .map 5, .sl 2 6 0 (List.length p') none] := by simp
 have f13 : List.length (pnds p') = List.length p' := by simp
 have f14 : LObj.box 64 [.int i64 rm, .omap i64 (List.map (·.1) (mapE m')) (List.map (·.2) (mapE m')), .own 90 2 (pnds p')] = LObj.box 64 [.int i64 rm, .omap i64 (mapK m') (mapV m'), .own 90 2 (pnds p')] := by simp
 have f15 := C (n + 839) (by omega)
 have f16 := K (n + 859) (by omega)
 have f17 := loose_ok (n + 889) rm m' p'
 have f18 : lpick false (LV.bool true) (LV.bool !decide ((p'.length : Int) = ((loosR p').length : Int))) = some (LV.bool false) := by simp
 have f19 := U (n + 879)
 have f20 := V (n + 859) (by omega)
 have f21 : lpick false (LV.bool true) (LV.bool !decide (u = u)) = some (LV.bool false) := by simp
 have f22 := room_ok (n + 879) rm m' p'
 have f23 : LV.eqb (LV.isl 2 (cellsR m')) (LV.isl 2 (cellsR m')) = true := by simp
 have f24 : LV.eqb (LV.isl 3 (loosR p')) (LV.isl 3 (loosR p')) = true := by simp
 have f25 : LV.eqb (LV.int i64 ((loosR p').length : Int)) (LV.int i64 ((loosR p').length : Int)) = true := by simp
 have f26 : LV.eqb (LV.agg [.int i64 rm, .isl 2 (cellsR m'), .isl 3 (loosR p')]) (LV.agg [.int i64 rm, .isl 2 (cellsR m'), .isl 3 (loosR p')]) = true := by simp
 have f27 : LV.bool (if false = true then true else !decide (rm = rm)) = LV.bool false := by simp
 have f28 : LV.int i64 (IntKind.wrap i64 (i + 1)) = LV.int i64 (i + 1) := by simp (disch := omega)
 have f29 := hr
 exact dlp (fun h => ai (congrArg LV.bool f1) <| ai (f2) <| ai (f3) <| ai (congrArg some f4) <| ai (congrArg some f5) <| ai (f7) <| ai (f6) <| ai (f8) <| ai (congrArg some f9) <| ai (f10) <| ai (f2) <| ai (f3) <| ai (congrArg some f11) <| ai (congrArg some f12) <| ai (f13) <| ai (congrArg some f14) <| ai (f15) <| ai (f16) <| ai (f17) <| ai (x_mapS (st := (St.mk 7 [(0, LObj.box 64 [.int i64 rm, .omap i64 (mapK m') (mapV m'), .own 90 2 (pnds p')]), (4, LObj.box 35 [.int i64 rm, .isl 2 (cellsR m'), .isl 3 (loosR p')]), (1, LObj.box 35 [.int i64 rm, .isl 2 (cellsR m'), .isl 3 (loosR p')])])) f18 rfl) <| ai (f19) <| ai (f20) <| ai (x_mapS (st := (St.mk 7 [(0, LObj.box 64 [.int i64 rm, .omap i64 (mapK m') (mapV m'), .own 90 2 (pnds p')]), (4, LObj.box 35 [.int i64 rm, .isl 2 (cellsR m'), .isl 3 (loosR p')]), (1, LObj.box 35 [.int i64 rm, .isl 2 (cellsR m'), .isl 3 (loosR p')])])) f21 rfl) <| ai (f22) <| ai (f23) <| ai (f23) <| ai (f24) <| ai (f24) <| ai (f25) <| ai (f25) <| ai (f26) <| ai (f26) <| ai (f27) <| ai (f28) <| ai (Eq.refl (tidyOf f29)) <| ai (f29) <| h) (.i (.s (.s (.a) (.b true (.a))) (.s (.k (.s (.d [.y 45 (vOf f2), .y 46 (vOf f3), .x 2 (vOf f4), .x 0 (vOf f5)] [.a, .a, .a, .a, .e (rOf f6), .a, .fr .q [.x 0 (vOf f9)] (rOf f10), .a, .a, .a, .a] [] [.a, .a]) (.s (.a) (.s (.d [.y 45 (vOf f2), .y 46 (vOf f3), .x 5 (vOf f11), .x 0 (vOf f12)] [.a, .a, .a, .a, .fr .q [.x 0 (vOf f14)] (rOf f15), .a, .a, .f (rOf f16), .a, .a, .a, .a, .f (rOf f17), .a, .a, .a, .a, .t (rOf (x_mapS (st := (St.mk 7 [(0, LObj.box 64 [.int i64 rm, .omap i64 (mapK m') (mapV m'), .own 90 2 (pnds p')]), (4, LObj.box 35 [.int i64 rm, .isl 2 (cellsR m'), .isl 3 (loosR p')]), (1, LObj.box 35 [.int i64 rm, .isl 2 (cellsR m'), .isl 3 (loosR p')])])) f18 rfl)), .a, .a, .f (rOf f19), .a, .f (rOf f20), .a, .t (rOf (x_mapS (st := (St.mk 7 [(0, LObj.box 64 [.int i64 rm, .omap i64 (mapK m') (mapV m'), .own 90 2 (pnds p')]), (4, LObj.box 35 [.int i64 rm, .isl 2 (cellsR m'), .isl 3 (loosR p')]), (1, LObj.box 35 [.int i64 rm, .isl 2 (cellsR m'), .isl 3 (loosR p')])])) f21 rfl)), .a, .a, .f (rOf f22), .a] [(true, .a), (true, .a), (true, .a), (true, .a), (true, .a), (true, .a), (true, .a), (true, .a)] [.a, .v (vOf f27) (.a)]) (.a))))) (.r [.a, .v (vOf f28) (.a)]))) (.h [] (eOf f29) (stOf f29) (rOf f29))) (by kernel_rfl)
theorem bd_first (n fu : Nat) (rm : Int) (l : List Act5) (hl : l.length ≤ 60) (h0 : 0 ≤ rm) (h1 : rm ≤ 1073741824) (i : Int) (hi0 : 0 ≤ i) (hi : i < (l.length : Int)) (k a : Int) (b ks : List Int) (c : Int) (hx : (ops5 l)[i.toNat]? = some (.agg [.int .i64 k, .int .i64 a, .isl 1 (bys b), .isl 1 (ints ks), .int .i64 c]))
  (m' : ML) (p' : PL) (hm' : m'.length ≤ 1000) (hp' : p'.length ≤ 1000) (u : Int) (hn : 400 ≤ n)
  (D : ∀ j, 300 < j → lrun prog C0 (lcall prog C0 (j + 500)) (j + 500) 10 [.ptr 0 0, rNil rm, opA k a b ks c] ⟨1, [(0, dO rm [] [])]⟩ = some (.tup [rR rm m' p', .bool true], ⟨1, [(0, dO rm m' p')]⟩))
  (C : ∀ j, 300 < j → lrun prog C0 (lcall prog C0 (j + 60)) (j + 60) 12 [.ptr 0 0] ⟨1, [(0, dO rm m' p')]⟩ = some (.isl 2 (cellsR m'), ⟨1, [(0, dO rm m' p')]⟩))
  (K : ∀ j, 300 < j → lrun prog C0 (lcall prog C0 (j + 40)) (j + 40) 11 [.isl 2 (cellsR m'), .isl 2 (cellsR m')] ⟨0, []⟩ = some (.bool true, ⟨0, []⟩))
  (U : ∀ j, lrun prog C0 (lcall prog C0 (j + 20)) (j + 20) 14 [.ptr 0 0] ⟨1, [(0, dO rm m' p')]⟩ = some (.int .i64 u, ⟨1, [(0, dO rm m' p')]⟩))
  (V : ∀ j, 300 < j → lrun prog C0 (lcall prog C0 (j + 40)) (j + 40) 15 [rR rm m' p'] ⟨0, []⟩ = some (.int .i64 u, ⟨0, []⟩))
  (r : LX × LEnv × St) (hr : loopAt prog C0 (n + 900) 3 0 0 fu (bdE rm l (i + 1)) (bdS rm m' p') = some r) :
  loopAt prog C0 (n + 900) 3 0 0 (fu + 1) (bdE rm l i) (bdN rm) = some r := by
 have f1 : decide (i < ((ops5 l).length : Int)) = true := by simp; omega
 have f2 : (ops5 l)[i.toNat]? = some (LV.agg [.int i64 k, .int i64 a, .isl 1 (bys b), .isl 1 (ints ks), .int i64 c]) := hx
 have f3 : 0 ≤ i ∧ i < ((ops5 l).length : Int) := by simp; omega
 have f4 := D (n + 399) (by omega)
 have f5 : LV.int i64 ((ops5 l).length : Int) = LV.int i64 (l.length : Int) := by simp
 have f6 : LV.bool (decide (i < ((ops5 l).length : Int))) = LV.bool true := by simp; omega
 have f7 : LObj.map i64 (List.zip (mapK m') (mapV m')) = LObj.map i64 (mapE m') := by simp
 have f8 : LObj.box 64 [.int i64 rm, .map 5, .sl 2 6 0 (List.length (pnds p')) none] = LObj.box 64 [.int i64 rm, .map 5, .sl 2 6 0 (List.length p') none] := by simp
 have f9 : List.length (pnds p') = List.length p' := by simp
 have f10 : LObj.box 64 [.int i64 rm, .omap i64 (List.map (·.1) (mapE m')) (List.map (·.2) (mapE m')), .own 90 2 (pnds p')] = LObj.box 64 [.int i64 rm, .omap i64 (mapK m') (mapV m'), .own 90 2 (pnds p')] := by simp
 have f11 := C (n + 839) (by omega)
 have f12 := K (n + 859) (by omega)
 have f13 := loose_ok (n + 889) rm m' p'
 have f14 : lpick false (LV.bool true) (LV.bool !decide ((p'.length : Int) = ((loosR p').length : Int))) = some (LV.bool false) := by simp
 have f15 := U (n + 879)
 have f16 := V (n + 859) (by omega)
 have f17 : lpick false (LV.bool true) (LV.bool !decide (u = u)) = some (LV.bool false) := by simp
 have f18 := room_ok (n + 879) rm m' p'
 have f19 : LV.eqb (LV.isl 2 (cellsR m')) (LV.isl 2 (cellsR m')) = true := by simp
 have f20 : LV.eqb (LV.isl 3 (loosR p')) (LV.isl 3 (loosR p')) = true := by simp
 have f21 : LV.eqb (LV.int i64 ((loosR p').length : Int)) (LV.int i64 ((loosR p').length : Int)) = true := by simp
 have f22 : LV.eqb (LV.agg [.int i64 rm, .isl 2 (cellsR m'), .isl 3 (loosR p')]) (LV.agg [.int i64 rm, .isl 2 (cellsR m'), .isl 3 (loosR p')]) = true := by simp
 have f23 : LV.bool (if false = true then true else !decide (rm = rm)) = LV.bool false := by simp
 have f24 : LV.int i64 (IntKind.wrap i64 (i + 1)) = LV.int i64 (i + 1) := by simp (disch := omega)
 have f25 := hr
 exact dlp (fun h => ai (congrArg LV.bool f1) <| ai (f3) <| ai (f2) <| ai (f4) <| ai (f5) <| ai (f6) <| ai (congrArg some f7) <| ai (congrArg some f8) <| ai (f9) <| ai (congrArg some f10) <| ai (f11) <| ai (f12) <| ai (f13) <| ai (x_mapS (st := (St.mk 7 [(0, LObj.box 64 [.int i64 rm, .omap i64 (mapK m') (mapV m'), .own 90 2 (pnds p')]), (4, LObj.box 35 [.int i64 rm, .isl 2 (cellsR m'), .isl 3 (loosR p')]), (1, LObj.box 35 [.int i64 rm, .isl 2 (cellsR m'), .isl 3 (loosR p')])])) f14 rfl) <| ai (f15) <| ai (f16) <| ai (x_mapS (st := (St.mk 7 [(0, LObj.box 64 [.int i64 rm, .omap i64 (mapK m') (mapV m'), .own 90 2 (pnds p')]), (4, LObj.box 35 [.int i64 rm, .isl 2 (cellsR m'), .isl 3 (loosR p')]), (1, LObj.box 35 [.int i64 rm, .isl 2 (cellsR m'), .isl 3 (loosR p')])])) f17 rfl) <| ai (f18) <| ai (f19) <| ai (f19) <| ai (f20) <| ai (f20) <| ai (f21) <| ai (f21) <| ai (f22) <| ai (f22) <| ai (f23) <| ai (f24) <| ai (Eq.refl (tidyOf f25)) <| ai (f25) <| h) (.i (.s (.s (.a) (.b true (.a))) (.s (.k (.s (.d [] [.a, .a, .a, .a, .e (rOf f2), .a, .f (rOf f4), .a, .a, .a, .a] [] [.a, .a]) (.s (.a) (.s (.d [.y 45 (vOf f5), .y 46 (vOf f6), .x 5 (vOf f7), .x 0 (vOf f8)] [.a, .a, .a, .a, .fr .q [.x 0 (vOf f10)] (rOf f11), .a, .a, .f (rOf f12), .a, .a, .a, .a, .f (rOf f13), .a, .a, .a, .a, .t (rOf (x_mapS (st := (St.mk 7 [(0, LObj.box 64 [.int i64 rm, .omap i64 (mapK m') (mapV m'), .own 90 2 (pnds p')]), (4, LObj.box 35 [.int i64 rm, .isl 2 (cellsR m'), .isl 3 (loosR p')]), (1, LObj.box 35 [.int i64 rm, .isl 2 (cellsR m'), .isl 3 (loosR p')])])) f14 rfl)), .a, .a, .f (rOf f15), .a, .f (rOf f16), .a, .t (rOf (x_mapS (st := (St.mk 7 [(0, LObj.box 64 [.int i64 rm, .omap i64 (mapK m') (mapV m'), .own 90 2 (pnds p')]), (4, LObj.box 35 [.int i64 rm, .isl 2 (cellsR m'), .isl 3 (loosR p')]), (1, LObj.box 35 [.int i64 rm, .isl 2 (cellsR m'), .isl 3 (loosR p')])])) f17 rfl)), .a, .a, .f (rOf f18), .a] [(true, .a), (true, .a), (true, .a), (true, .a), (true, .a), (true, .a), (true, .a), (true, .a)] [.a, .v (vOf f23) (.a)]) (.a))))) (.r [.a, .v (vOf f24) (.a)]))) (.h [] (eOf f25) (stOf f25) (rOf f25))) (by kernel_rfl)
theorem bd_end (n fu : Nat) (rm : Int) (l : List Act5) (hl : l.length ≤ 60) (m : ML) (p : PL) :
  loopAt prog C0 (n + 900) 3 0 0 (fu + 1) (bdE rm l l.length) (bdS rm m p) = some (.exit 0, bdX rm l l.length, bdS rm m p) := by
 have f1 : decide ((l.length : Int) < ((ops5 l).length : Int)) = false := by simp
 exact dlp (fun h => ai (congrArg LV.bool f1) <| h) (.i (.s (.s (.a) (.b false (.a))) .a) (.a)) (by kernel_rfl)
theorem bd_endN (n fu : Nat) (rm : Int) (l : List Act5) (hl : l.length ≤ 60) :
  loopAt prog C0 (n + 900) 3 0 0 (fu + 1) (bdE rm l l.length) (bdN rm) = some (.exit 0, bdX rm l l.length, bdN rm) := by
 have f1 : decide ((l.length : Int) < ((ops5 l).length : Int)) = false := by simp
 exact dlp (fun h => ai (congrArg LV.bool f1) <| h) (.i (.s (.s (.a) (.b false (.a))) .a) (.a)) (by kernel_rfl)
theorem bd_heavy (n : Nat) (rm : Int) (l : List Act5) (hl : lightB l = false) (hn : 400 ≤ n) (hw : lrun prog C0 (lcall prog C0 (n + 899)) (n + 899) 7 [] ⟨0, []⟩ = some (.bool true, ⟨0, []⟩)) :
  lrun prog C0 (lcall prog C0 (n + 900)) (n + 900) 3 [.int .i64 rm, .isl 5 (ops5 l)] ⟨0, []⟩ = some (.bool true, ⟨0, []⟩) := by
 have f1 := light_ok (n + 879) l (by omega)
 have f2 : (!lightB l) = true := by simp; omega
 have f3 := hw
 exact drn (fun h => ai (f1) <| ai (congrArg LV.bool f2) <| ai (f3) <| h) (.s (.a) (.s (.s (.r [.a, .f (rOf f1)]) (.b true (.s (.r [.f (rOf f3)]) (.a)))) .a)) [] .a (by kernel_rfl)
theorem new_bad (n : Nat) (r : Int) (h : r < 0 ∨ 1073741824 < r) : lrun prog C0 (lcall prog C0 (n + 10)) (n + 10) 8 [.int .i64 r] ⟨0, []⟩ = some (.tup [.nilp, flt [114,111,111,109] r 2], ⟨0, []⟩) := by
 rcases h with h | h
 ·have f1 : decide (r < 0) = true := by simp; omega
  have f2 : lpick (decide (r < 0)) (LV.bool true) LV.any = some (LV.bool true) := by simp; omega
  exact drn (fun h => ai (congrArg some f1) <| ai (congrArg some f1) <| ai (x_map (st := (St.mk 0 [])) f2) <| h) (.s (.a) (.s (.s (.r [.a, .a, .a, .g true (.a), .g true (.a), .t (rOf (x_map (st := (St.mk 0 [])) f2))]) (.a)) .a)) [] .a (by kernel_rfl)
 ·have f1 : decide (r < 0) = false := by simp; omega
  have f2 : LV.bool (if decide (r < 0) = true then true else decide (1073741824 < r)) = LV.bool true := by simp; omega
  exact drn (fun h => ai (congrArg some f1) <| ai (congrArg some f1) <| ai (f2) <| h) (.s (.a) (.s (.s (.r [.a, .a, .a, .g false (.a), .g false (.a), .v (vOf f2) (.a)]) (.a)) .a)) [] .a (by kernel_rfl)
theorem bd_room (n : Nat) (rm : Int) (l : List Act5) (hl : lightB l = true) (h : rm < 0 ∨ 1073741824 < rm) (hn : 400 ≤ n) (hw : lrun prog C0 (lcall prog C0 (n + 899)) (n + 899) 7 [] ⟨0, []⟩ = some (.bool true, ⟨0, []⟩)) :
  lrun prog C0 (lcall prog C0 (n + 900)) (n + 900) 3 [.int .i64 rm, .isl 5 (ops5 l)] ⟨0, []⟩ = some (.bool true, ⟨0, []⟩) := by
 have N := fun j => new_bad j rm h
 rcases h with h | h
 ·have f1 := light_ok (n + 879) l (by omega)
  have f2 : (!lightB l) = false := by simp; omega
  have f3 := N (n + 889)
  have f4 : decide (rm < 0) = true := by simp; omega
  have f5 : lpick (decide (rm < 0)) (LV.bool true) LV.any = some (LV.bool true) := by simp; omega
  have f6 := hw
  exact drn (fun h => ai (f1) <| ai (congrArg LV.bool f2) <| ai (f3) <| ai (congrArg some f4) <| ai (congrArg some f4) <| ai (x_map (st := (St.mk 0 [])) f5) <| ai (f6) <| h) (.s (.a) (.s (.s (.r [.a, .f (rOf f1)]) (.b false (.a))) (.s (.r [.a, .f (rOf f3)]) (.s (.s (.r [.a, .a, .a, .g true (.a), .g true (.a), .t (rOf (x_map (st := (St.mk 0 [])) f5))]) (.c (.s (.r [.a, .a, .a, .a, .a, .a, .a, .f (rOf f6)]) (.a)))) .a)))) [] .a (by kernel_rfl)
 ·have f1 := light_ok (n + 879) l (by omega)
  have f2 : (!lightB l) = false := by simp; omega
  have f3 := N (n + 889)
  have f4 : decide (rm < 0) = false := by simp; omega
  have f5 : LV.bool (if decide (rm < 0) = true then true else decide (1073741824 < rm)) = LV.bool true := by simp; omega
  have f6 := hw
  exact drn (fun h => ai (f1) <| ai (congrArg LV.bool f2) <| ai (f3) <| ai (congrArg some f4) <| ai (congrArg some f4) <| ai (f5) <| ai (f6) <| h) (.s (.a) (.s (.s (.r [.a, .f (rOf f1)]) (.b false (.a))) (.s (.r [.a, .f (rOf f3)]) (.s (.s (.r [.a, .a, .a, .g false (.a), .g false (.a), .v (vOf f5) (.a)]) (.c (.s (.r [.a, .a, .a, .a, .a, .a, .a, .f (rOf f6)]) (.a)))) .a)))) [] .a (by kernel_rfl)
theorem bd_thru (n : Nat) (rm : Int) (l : List Act5) (hl : lightB l = true) (hl2 : l.length ≤ 60) (h0 : 0 ≤ rm) (h1 : rm ≤ 1073741824) (hn : 400 ≤ n) (m : ML) (p : PL)
  (L : loopAt prog C0 (n + 900) 3 0 0 (n + 900) (bdE rm l 0) (bdN rm) = some (.exit 0, bdX rm l l.length, bdS rm m p)) (hw : lrun prog C0 (lcall prog C0 (n + 899)) (n + 899) 7 [] ⟨0, []⟩ = some (.bool true, ⟨0, []⟩)) :
  lrun prog C0 (lcall prog C0 (n + 900)) (n + 900) 3 [.int .i64 rm, .isl 5 (ops5 l)] ⟨0, []⟩ = some (.bool true, ⟨0, []⟩) := by
 have f1 := light_ok (n + 879) l (by omega)
 have f2 : (!lightB l) = false := by simp; omega
 have f3 := new_ok (n + 889) rm h0 h1
 have f4 : decide (rm < 0) = false := by simp; omega
 have f5 : LV.bool (if decide (rm < 0) = true then true else decide (1073741824 < rm)) = LV.bool false := by simp; omega
 have f6 := L
 have f7 := hw
 exact drn (fun h => ai (f1) <| ai (congrArg LV.bool f2) <| ai (f3) <| ai (congrArg some f4) <| ai (congrArg some f4) <| ai (f5) <| ai (Eq.refl (tidyOf f6)) <| ai (f6) <| ai (f7) <| h) (.s (.a) (.s (.s (.r [.a, .f (rOf f1)]) (.b false (.a))) (.s (.r [.a, .f (rOf f3)]) (.s (.s (.r [.a, .a, .a, .g false (.a), .g false (.a), .v (vOf f5) (.a)]) (.a)) (.s (.a) (.s (.a) (.s (.s (.a) (.k (.l (.h [] (eOf f6) (stOf f6) (rOf f6))))) (.s (.r [.f (rOf f7)]) (.a))))))))) [] .a (by kernel_rfl)
theorem bd_thruN (n : Nat) (rm : Int) (l : List Act5) (hl : lightB l = true) (hl2 : l.length ≤ 60) (h0 : 0 ≤ rm) (h1 : rm ≤ 1073741824) (hn : 400 ≤ n)
  (L : loopAt prog C0 (n + 900) 3 0 0 (n + 900) (bdE rm l 0) (bdN rm) = some (.exit 0, bdX rm l l.length, bdN rm)) (hw : lrun prog C0 (lcall prog C0 (n + 899)) (n + 899) 7 [] ⟨0, []⟩ = some (.bool true, ⟨0, []⟩)) :
  lrun prog C0 (lcall prog C0 (n + 900)) (n + 900) 3 [.int .i64 rm, .isl 5 (ops5 l)] ⟨0, []⟩ = some (.bool true, ⟨0, []⟩) := by
 have f1 := light_ok (n + 879) l (by omega)
 have f2 : (!lightB l) = false := by simp; omega
 have f3 := new_ok (n + 889) rm h0 h1
 have f4 : decide (rm < 0) = false := by simp; omega
 have f5 : LV.bool (if decide (rm < 0) = true then true else decide (1073741824 < rm)) = LV.bool false := by simp; omega
 have f6 := L
 have f7 := hw
 exact drn (fun h => ai (f1) <| ai (congrArg LV.bool f2) <| ai (f3) <| ai (congrArg some f4) <| ai (congrArg some f4) <| ai (f5) <| ai (Eq.refl (tidyOf f6)) <| ai (f6) <| ai (f7) <| h) (.s (.a) (.s (.s (.r [.a, .f (rOf f1)]) (.b false (.a))) (.s (.r [.a, .f (rOf f3)]) (.s (.s (.r [.a, .a, .a, .g false (.a), .g false (.a), .v (vOf f5) (.a)]) (.a)) (.s (.a) (.s (.a) (.s (.s (.a) (.k (.l (.h [] (eOf f6) (stOf f6) (rOf f6))))) (.s (.r [.f (rOf f7)]) (.a))))))))) [] .a (by kernel_rfl)
theorem works_far : lrun prog C0 (lcall prog C0 (400 + 899)) (400 + 899) 7 [] ⟨0, []⟩ = some (.bool true, ⟨0, []⟩) := by kernel_rfl
theorem cellsLR {m : ML} (h : ∀ x ∈ m, x.2.length = 64) : cellsL m = cellsR m := by
 unfold cellsL cellsR
 refine List.map_congr_left fun x hx => ?_
 simp only [cellL, cellR, blk64 (h x hx)]
theorem bd_facts (rm : Int) (m : ML) (p : PL) (hm : okM m) (hq : okQ p) (hl : m.length + p.length ≤ 61) :
  (∀ j, 300 < j → lrun prog C0 (lcall prog C0 (j + 60)) (j + 60) 12 [.ptr 0 0] ⟨1, [(0, dO rm m p)]⟩ = some (.isl 2 (cellsR m), ⟨1, [(0, dO rm m p)]⟩)) ∧
  (∀ j, 300 < j → lrun prog C0 (lcall prog C0 (j + 40)) (j + 40) 11 [.isl 2 (cellsR m), .isl 2 (cellsR m)] ⟨0, []⟩ = some (.bool true, ⟨0, []⟩)) ∧
  (∀ j, lrun prog C0 (lcall prog C0 (j + 20)) (j + 20) 14 [.ptr 0 0] ⟨1, [(0, dO rm m p)]⟩ = some (.int .i64 (needs m p).length, ⟨1, [(0, dO rm m p)]⟩)) ∧
  (∀ j, 300 < j → lrun prog C0 (lcall prog C0 (j + 40)) (j + 40) 15 [rR rm m p] ⟨0, []⟩ = some (.int .i64 (needs m p).length, ⟨0, []⟩)) := by
 have h64 : ∀ x ∈ m, x.2.length = 64 := fun x hx => (hm.2 x hx).2
 refine ⟨fun j hj => ?_, fun j hj => cells_any j m (by omega) h64 (by omega) (by omega), fun j => used_ok j rm m p (by omega) hq.ok64.okP, fun j hj => used_ref j rm m p (by omega) (by omega) hm.1 (by omega)⟩
 have := cells_ok j rm m p (hm.keys (by omega)) (by omega)
 rw [cellsLR h64] at this
 exact this
theorem bd_loop (rm : Int) (l : List Act5) (hl : l.length ≤ 60) (hL : l.all Light = true) (h0 : 0 ≤ rm) (h1 : rm ≤ 1073741824) : ∀ (j i fu : Nat) (m : ML) (p : PL), i + j = l.length → j < fu → okM m → okQ p → m.length + p.length ≤ i →
  ∃ m' p', loopAt prog C0 (400 + 900) 3 0 0 fu (bdE rm l i) (bdS rm m p) = some (.exit 0, bdX rm l l.length, bdS rm m' p')
 | 0, i, fu, m, p, hi, hf, hm, hq, hp => by
  obtain ⟨fu, rfl⟩ : ∃ q, fu = q + 1 := ⟨fu - 1, by omega⟩
  obtain rfl : i = l.length := by omega
  exact ⟨m, p, bd_end 400 fu rm l hl m p⟩
 | j + 1, i, fu, m, p, hi, hf, hm, hq, hp => by
  obtain ⟨fu, rfl⟩ : ∃ q, fu = q + 1 := ⟨fu - 1, by omega⟩
  have hlt : i < l.length := by omega
  have hx : l[i]? = some l[i] := List.getElem?_eq_getElem hlt
  have hLx : Light l[i] = true := List.all_eq_true.1 hL _ (List.getElem_mem hlt)
  generalize l[i] = x at hx hLx
  obtain ⟨m1, p1, g1, g2, g3, D⟩ := do_ref rm m p hm hq (by omega) x hLx
  obtain ⟨C, K, U, V⟩ := bd_facts rm m1 p1 g1 g2 (by omega)
  obtain ⟨m', p', r1⟩ := bd_loop rm l hl hL h0 h1 j (i + 1) fu m1 p1 (by omega) (by omega) g1 g2 (by omega)
  exact ⟨m', p', bd_step 400 fu rm l hl h0 h1 (i : Int) (by omega) (by omega) x.kind x.at_ x.b x.keep x.cut (ops5_at hx) m m1 p p1 (by omega) (by omega) _ (by omega) D C K U V _ r1⟩
theorem bd_ok (rm : Int) (l : List Act5) :
  lrun prog C0 (lcall prog C0 (400 + 900)) (400 + 900) 3 [.int .i64 rm, .isl 5 (ops5 l)] ⟨0, []⟩ = some (.bool true, ⟨0, []⟩) := by
 cases hL : lightB l with
 | false => exact bd_heavy 400 rm l hL (by omega) works_far
 | true =>
 by_cases hr : rm < 0 ∨ 1073741824 < rm
 ·exact bd_room 400 rm l hL hr (by omega) works_far
 have h0 : 0 ≤ rm := by omega
 have h1 : rm ≤ 1073741824 := by omega
 have hL2 := hL
 simp only [lightB, Bool.and_eq_true, decide_eq_true_eq] at hL2
 obtain ⟨hlen, hall⟩ := hL2
 match l, hL, hlen, hall with
 | [], hL, hlen, hall =>
  exact bd_thruN 400 rm [] hL hlen h0 h1 (by omega) (bd_endN 400 1299 rm [] hlen) works_far
 | x :: l, hL, hlen, hall =>
  have hLx : Light x = true := List.all_eq_true.1 hall _ List.mem_cons_self
  obtain ⟨m1, p1, g1, g2, g3, D⟩ := do_first rm h0 x hLx
  obtain ⟨C, K, U, V⟩ := bd_facts rm m1 p1 g1 g2 (by omega)
  obtain ⟨m', p', r1⟩ := bd_loop rm (x :: l) hlen hall h0 h1 l.length 1 1299 m1 p1 (by simp; omega) (by simp at hlen; omega) g1 g2 (by omega)
  exact bd_thru 400 rm (x :: l) hL hlen h0 h1 (by omega) m' p' (bd_first 400 1299 rm (x :: l) hlen h0 h1 0 (by omega) (by simp) x.kind x.at_ x.b x.keep x.cut (ops5_at (l := x :: l) (i := 0) rfl) m1 p1 (by omega) (by omega) _ (by omega) D C K U V _ r1) works_far
end Go.Mac
namespace Go.Mac
open Go Go.Eng Go.Proofs
open Go.IntKind (i64)
open Go.Proofs.Tryd (prog)
set_option maxHeartbeats 0
set_option maxRecDepth 100000
def C1 : Cfg := ⟨fun _ => none, fun f => f == 35⟩
theorem right_ok1 (n : Nat) (at_ : Int) (h : 0 ≤ at_) (h2 : at_ ≤ 1073741824) : lrun prog C1 (lcall prog C1 (n + 9)) (n + 9) 39 [.int .i64 at_] ⟨0, []⟩ = some (.nili, ⟨0, []⟩) := by
 have f1 : decide (at_ < 0) = false := by simp; omega
 have f2 : LV.bool (if decide (at_ < 0) = true then true else decide (1073741824 < at_)) = LV.bool false := by simp; omega
 exact drn (fun h => ai (congrArg some f1) <| ai (congrArg some f1) <| ai (f2) <| h) (.s (.a) (.s (.s (.r [.a, .a, .a, .g false (.a), .g false (.a), .v (vOf f2) (.a)]) (.a)) (.a))) [] .a (by kernel_rfl)
theorem right_no1 (n : Nat) (at_ : Int) (h : at_ < 0 ∨ 1073741824 < at_) : lrun prog C1 (lcall prog C1 (n + 9)) (n + 9) 39 [.int .i64 at_] ⟨0, []⟩ = some (.ifc 95 (.agg [.str [98,108,111,99,107], .int .i64 at_, .ifc 31 (.int .i64 2)]), ⟨0, []⟩) := by
 by_cases h1 : at_ < 0
 ·have f1 : decide (at_ < 0) = true := by simp; omega
  have f2 : lpick (decide (at_ < 0)) (LV.bool true) LV.any = some (LV.bool true) := by simp; omega
  exact drn (fun h => ai (congrArg some f1) <| ai (congrArg some f1) <| ai (x_map (st := (St.mk 0 [])) f2) <| h) (.s (.a) (.s (.s (.r [.a, .a, .a, .g true (.a), .g true (.a), .t (rOf (x_map (st := (St.mk 0 [])) f2))]) (.a)) .a)) [] .a (by kernel_rfl)
 ·have : 1073741824 < at_ := by omega
  have f1 : decide (at_ < 0) = false := by simp; omega
  have f2 : LV.bool (if decide (at_ < 0) = true then true else decide (1073741824 < at_)) = LV.bool true := by simp; omega
  exact drn (fun h => ai (congrArg some f1) <| ai (congrArg some f1) <| ai (f2) <| h) (.s (.a) (.s (.s (.r [.a, .a, .a, .g false (.a), .g false (.a), .v (vOf f2) (.a)]) (.a)) .a)) [] .a (by kernel_rfl)
theorem whole_ok1 (n : Nat) (b : List Int) : lrun prog C1 (lcall prog C1 (n + 9)) (n + 9) 35 [.isl 1 (bys b)] ⟨0, []⟩ = some (.sl 1 0 0 64 none, ⟨1, [(0, .row 5 1 (bys (blk b)))]⟩) := by
 have f1 : okElems true 1 (sealL (bys b)) = true := by simp
 have f2 : 64 ≤ 64 := by omega
 have f3 : LV.int i64 (↑(min (List.length (sealL (bys b))) 64) : Int) = LV.int i64 (↑(min (List.length b) 64) : Int) := by simp
 have f4 : LObj.row 5 1 (lsplice (List.replicate 64 (LV.int IntKind.u8 0)) 0 (List.take (min (List.length (sealL (bys b))) 64) (sealL (bys b)))) = LObj.row 5 1 (bys (spliceI (List.replicate 64 0) 0 (List.take (min (List.length b) 64) b))) := by simp
 exact drn (fun h => ai (f1) <| ai (f2) <| ai (f3) <| ai (congrArg some f4) <| h) (.s (.a) (.s (.a) (.s (.r [.a, .a, .x 0 (vOf f4) (.v (vOf f3) (.q))]) (.a)))) [] .a (by kernel_rfl)
theorem whole_nil1 (n : Nat) : lrun prog C1 (lcall prog C1 (n + 9)) (n + 9) 35 [.nils] ⟨0, []⟩ = some (.sl 1 0 0 64 none, ⟨1, [(0, .row 5 1 (bys (blk [])))]⟩) := by
 exact drn (fun h => h) (.a) [] .a (by kernel_rfl)
end Go.Mac
namespace Go.Proofs.YtddbfjgodbfaoaaDoor.T
open Go Go.Eng Go.Mac Go.Proofs.YtddbfjgodbfaoaaDoor.Ty
theorem extC1 : ExtSound Tryd.prog C1 := fun f F h => by simp [C1] at h
theorem mixed : Tryd.prog.follows .mixedOrders = true := by kernel_rfl
def R1 : Inst := ⟨id, id, fun _ => false⟩
theorem Meets.wkpost {P : Program} {f : FuncId} {as_ : List AV} {s : Hp} {K : AV → Hp → Prop} (h : Meets P f as_ s (fun r t => ∃ r' t', Wk r r' ∧ HpWk t t' ∧ K r' t')) : Meets P f as_ s K :=
 Meets.sw (h.mono fun r t ⟨r', t', h1, h2, h3⟩ => ⟨r', t', SW.wk (fun _ => h1) h2, h3⟩)
theorem meets_run {n : Nat} {f : FuncId} {as_ : List LV} {v : LV} {st : St} (h : lrun Tryd.prog C1 (lcall Tryd.prog C1 n) n f as_ ⟨0, []⟩ = some (v, st)) (hr : refsL as_ = []) {K : AV → Hp → Prop}
  (hk : ∀ R t, SRel Tryd.prog R st t → (∀ b ∈ refs v, b < st.next) → K (inst R true v) t) : Meets Tryd.prog f (instL R1 true as_) [] K := by
 have := lrun_sound extC1 mixed (lcall_sound extC1 mixed n) h R1 [] (SRel.empty _ _) (by rw [hr]; simp)
 refine Meets.wkpost (this.mono ?_)
 rintro r t ⟨R', s', _, _, g3, g4, g5, g6⟩
 exact ⟨_, s', g3, g5, hk R' s' g6 g4⟩
theorem right_av (at_ : Int) (h : 0 ≤ at_ ∧ at_ ≤ 1073741824) (s : Hp) (K : AV → Hp → Prop) (hk : K (.v .nilIface) s) : Meets Tryd.prog 39 [.v (.int .i64 at_)] s K := by
 refine Meets.alone ?_
 have := meets_run (K := fun r t => K r s) (right_ok1 0 at_ h.1 h.2) (by simp [refsL, refs]) (fun R t ht _ => by simpa [inst] using hk)
 simpa [instL, inst] using this
theorem right_av_no (at_ : Int) (h : at_ < 0 ∨ 1073741824 < at_) (s : Hp) (K : AV → Hp → Prop) (hk : K (.ifc 95 (.agg [.v (.string ⟨#[98,108,111,99,107]⟩), .v (.int .i64 at_), .v (.iface 31 (.int .i64 2))])) s) : Meets Tryd.prog 39 [.v (.int .i64 at_)] s K := by
 refine Meets.alone ?_
 have := meets_run (K := fun r t => K r s) (right_no1 0 at_ h) (by simp [refsL, refs]) (fun R t ht _ => by simpa [inst, instL, mkIfc] using hk)
 simpa [instL, inst] using this
def cel (b : List Int) : List AV := b.map fun n => .v (.int .u8 n)
theorem cel_bys (R : Inst) (l : Bool) (b : List Int) : instL R l (bys b) = cel b := by
 rw [instL_eq]; unfold bys cel
 rw [List.map_map]
 apply List.map_congr_left
 intro x _
 cases l <;> simp [inst]
theorem cel_flat (b : List Int) : (cel b).flatMap cellsOf = cel b := by
 unfold cel
 induction b with
 | nil => rfl
 | cons x b ih => rw [List.map_cons, List.flatMap_cons, ih]; rfl
theorem whole_end {b : List Int} {R : Inst} {t : Hp} (ht : SRel Tryd.prog R ⟨1, [(0, .row 5 1 (bys (blk b)))]⟩ t) :
  ∃ q cap, 64 ≤ cap ∧ cap ≤ maxLen ∧ inst R true (.sl 1 0 0 64 none) = .v (.slice (some ⟨q, 0, none⟩) 64 cap) ∧ t = [(q, .cells 5 (cel (blk b)) (cap * 1))] := by
 have he := ht.ents
 cases he with
 | cons ho hrest =>
  cases hrest
  generalize hx : bys (blk b) = xs at ho
  have hxl : xs.length = 64 := by rw [← hx]; simp
  cases ho with
  | rowNil _ _ hz => simp at hxl
  | row _ _ _ hz ok =>
   subst hx
   refine ⟨R.ρ 0, R.κ 0, ?_, ok.cap, ?_, ?_⟩
   ·have := ok.le; rw [hxl] at this; exact this
   ·simp [inst, slInst, hz]
   ·rw [cel_bys, cel_flat]; rfl
theorem whole_av (b : List Int) (s : Hp) (K : AV → Hp → Prop) (hk : ∀ q cap, q ∉ s.keys → 64 ≤ cap → cap ≤ maxLen → K (.v (.slice (some ⟨q, 0, none⟩) 64 cap)) ((q, .cells 5 (cel (blk b)) (cap * 1)) :: s)) :
  Meets Tryd.prog 35 [.sl 1 (cel b)] s K := by
 have h0 : Meets Tryd.prog 35 [.sl 1 (cel b)] [] (fun r t => ∃ q cap, 64 ≤ cap ∧ cap ≤ maxLen ∧ r = .v (.slice (some ⟨q, 0, none⟩) 64 cap) ∧ t = [(q, .cells 5 (cel (blk b)) (cap * 1))]) := by
  have := meets_run (K := fun r t => ∃ q cap, 64 ≤ cap ∧ cap ≤ maxLen ∧ r = .v (.slice (some ⟨q, 0, none⟩) 64 cap) ∧ t = [(q, .cells 5 (cel (blk b)) (cap * 1))]) (whole_ok1 0 b) (by simp [refsL, refs]) (fun R t ht _ => by
   obtain ⟨q, cap, h1, h2, h3, h4⟩ := whole_end ht
   exact ⟨q, cap, h1, h2, h3, h4⟩)
  simpa [instL, inst, cel_bys] using this
 refine Meets.kn (Meets.frame (s := []) (t := s) (h0.mono ?_))
 rintro r t ⟨q, cap, h1, h2, rfl, rfl⟩
 intro hn
 exact hk q cap (List.nodup_cons.1 hn).1 h1 h2
theorem whole_av_nil (s : Hp) (K : AV → Hp → Prop) (hk : ∀ q cap, q ∉ s.keys → 64 ≤ cap → cap ≤ maxLen → K (.v (.slice (some ⟨q, 0, none⟩) 64 cap)) ((q, .cells 5 (cel (blk [])) (cap * 1)) :: s)) :
  Meets Tryd.prog 35 [.v (.slice none 0 0)] s K := by
 have h0 : Meets Tryd.prog 35 [.v (.slice none 0 0)] [] (fun r t => ∃ q cap, 64 ≤ cap ∧ cap ≤ maxLen ∧ r = .v (.slice (some ⟨q, 0, none⟩) 64 cap) ∧ t = [(q, .cells 5 (cel (blk [])) (cap * 1))]) := by
  have := meets_run (K := fun r t => ∃ q cap, 64 ≤ cap ∧ cap ≤ maxLen ∧ r = .v (.slice (some ⟨q, 0, none⟩) 64 cap) ∧ t = [(q, .cells 5 (cel (blk [])) (cap * 1))]) (whole_nil1 0) (by simp [refsL, refs]) (fun R t ht _ => by
   obtain ⟨q, cap, h1, h2, h3, h4⟩ := whole_end ht
   exact ⟨q, cap, h1, h2, h3, h4⟩)
  simpa [instL, inst] using this
 refine Meets.kn (Meets.frame (s := []) (t := s) (h0.mono ?_))
 rintro r t ⟨q, cap, h1, h2, rfl, rfl⟩
 intro hn
 exact hk q cap (List.nodup_cons.1 hn).1 h1 h2
def optC : Option (List Int) → AV
 | none => .v (.slice none 0 0)
 | some b => .sl 1 (cel b)
theorem optC_one (w : Option (List Int)) : (optC w).one = true := by cases w <;> rfl
theorem whole_any (o : Option (List Int)) (s : Hp) (K : AV → Hp → Prop) (hk : ∀ q cap, q ∉ s.keys → 64 ≤ cap → cap ≤ maxLen → K (.v (.slice (some ⟨q, 0, none⟩) 64 cap)) ((q, .cells 5 (cel (blk (o.getD []))) (cap * 1)) :: s)) :
  Meets Tryd.prog 35 [optC o] s K := by
 cases o with
 | none => exact whole_av_nil s K hk
 | some b => exact whole_av b s K hk
def pC (w : Int × Option (List Int)) : AV := .agg [.v (.int .i64 w.1), optC w.2]
def lastC (at_ : Int) : List (Int × Option (List Int)) → Option (Option (List Int))
 | [] => none
 | (a, b) :: l => match lastC at_ l with
  | some x => some x
  | none => if a = at_ then some b else none
theorem lastC_take {at_ : Int} : ∀ {ps : List (Int × Option (List Int))} {i : Nat}, (∀ j (h : j < ps.length), i < j → ps[j].1 ≠ at_) → (h : i < ps.length) → ps[i].1 = at_ → lastC at_ ps = some ps[i].2
 | [], i, _, h, _ => by simp at h
 | (a, b) :: l, 0, hn, h, he => by
  have hl : ∀ l : List (Int × Option (List Int)), (∀ x ∈ l, x.1 ≠ at_) → lastC at_ l = none := by
   intro l
   induction l with
   | nil => intro _; rfl
   | cons x l ih =>
    intro hx
    unfold lastC
    rw [ih (fun y hy => hx y (List.mem_cons_of_mem _ hy)), if_neg (hx x List.mem_cons_self)]
  have : lastC at_ l = none := hl l (fun x hx => by
   obtain ⟨j, hj, rfl⟩ := List.mem_iff_getElem.1 hx
   exact hn (j + 1) (by simpa using hj) (by omega))
  have he' : a = at_ := he
  unfold lastC
  rw [this, if_pos he']
  rfl
 | (a, b) :: l, i + 1, hn, h, he => by
  have := lastC_take (ps := l) (i := i) (fun j hj hij => by have := hn (j + 1) (by simpa using hj) (by omega); simpa using this) (by simpa using h) (by simpa using he)
  unfold lastC
  rw [this]
  rfl
theorem lastC_none {at_ : Int} : ∀ {l : List (Int × Option (List Int))}, (∀ x ∈ l, x.1 ≠ at_) → lastC at_ l = none
 | [], _ => rfl
 | x :: l, hx => by
  unfold lastC
  rw [lastC_none (fun y hy => hx y (List.mem_cons_of_mem _ hy)), if_neg (hx x List.mem_cons_self)]
def readC (at_ : Int) (es : List (Int × List Int)) (ps : List (Int × Option (List Int))) : List Int :=
 match lastC at_ ps with
 | some o => blk (o.getD [])
 | none => blk ((Pl.pget es at_).getD [])
def mC (es : List (Int × List Int)) : List (Int × AV) := Pl.gmap (fun b => .sl 1 (cel b)) es
end Go.Proofs.YtddbfjgodbfaoaaDoor.T
