import Derived.Test.YtddbfjgodbfaoaaSlotKeeps3
import Derived.Test.YtddbfjgodbfaoaaSlotKeeps5
import Derived.Test.YtddbfjgodbfaoaaSlotKeeps6
import Derived.Test.YtddbfjgodbfaoaaSlotKeeps7
import Derived.Test.YtddbfjgodbfaoaaProg
import Derived.KernelRfl
import Derived.Test.YtddbfjgodbfaoaaRows
set_option linter.unusedVariables false
set_option linter.unusedSimpArgs false
namespace Go.Mac
open Go Go.Eng Go.Proofs
set_option linter.unusedVariables false
set_option maxHeartbeats 0
set_option maxRecDepth 100000
theorem light_any (n : Nat) (l : List Act4) : lrun Try.prog C0 (lcall Try.prog C0 (n + 99)) (n + 99) 9 [.isl 4 (opsL l)] ⟨0, []⟩ = some (.bool (lightB l), ⟨0, []⟩) := by
  by_cases hl : l.length ≤ 60
  · exact light_ok (n + 79) l (by omega)
  · have : lightB l = false := by simp [lightB, hl]
    rw [this]
    exact light_long (n + 79) l (by omega)

theorem ke_tailOOsame (n : Nat) (l : List Act4) (hl : l.length ≤ 60) (v ks : List Int) (c : Int) (i : Int) (t : Int) (w : List Int) (m m' : List (Int × List Int)) (a : Int) (b : List Int) (m2 : List (Int × List Int)) (a2 : Int) (b2 : List Int)
    (hlt : lightB l = true) (hv : v.length ≤ 47) (hk : ks.length ≤ 20) (ht0 : 0 ≤ t) (ht : t ≤ 200) (hw2 : w.length ≤ 47)
    (O0 : ∀ k, lrun Try.prog C0 (lcall Try.prog C0 (k + 80)) (k + 80) 12 [.ptr 0 0, .int .i64 0] ⟨1, [(0, dO 4 [] [])]⟩ = some (.tup [.ptr 1 0, .nili], ⟨2, [(0, dO 4 [] []), (1, .box 84 [.ptr 0 0, .int .i64 0, .int .i64 0, vO [], .bool false])]⟩))
    (hw : lrun Try.prog C0 (lcall Try.prog C0 (n + 99)) (n + 99) 10 [] ⟨0, []⟩ = some (.bool true, ⟨0, []⟩))
    (L : loopAt Try.prog C0 (n + 100) 3 0 0 (n + 100) (keE l v ks c 0) ⟨2, [(0, dO 4 [] []), (1, sQ 0 (vO []) false)]⟩ = some (.exit 0, keX l v ks c i, ⟨2, [(0, dO 4 m []), (1, sQ 0 (vO []) false)]⟩))
    (Y : ∀ k, lrun Try.prog C0 (lcall Try.prog C0 (k + 61)) (k + 61) 14 [.ptr 0 0] ⟨2, [(0, sO 0 0 (vO []) false), (1, dO 4 m [])]⟩ = some (.tup [], ⟨2, [(0, sO 0 0 (vO []) false), (1, dO 4 m' [])]⟩))
    (S : ∀ k, lrun Try.prog C0 (lcall Try.prog C0 (k + 60)) (k + 60) 13 [.ptr 0 0, .isl 1 (bys v)] ⟨2, [(0, sO 0 0 (vO []) false), (1, dO 4 m' [])]⟩ = some (.nili, ⟨2, [(0, sO 0 (0 + 1) (vO v) true), (1, dO 4 m' [(a2, some b2)])]⟩))
    (Z : ∀ k, lrun Try.prog C0 (lcall Try.prog C0 (k + 60)) (k + 60) 15 [.ptr 0 0, .isl 1 (ints ks), .int .i64 c] ⟨1, [(0, dO 4 m' [(a2, some b2)])]⟩ = some (.tup [], ⟨1, [(0, dO 4 m2 [])]⟩))
    (O : ∀ k, lrun Try.prog C0 (lcall Try.prog C0 (k + 80)) (k + 80) 12 [.ptr 0 0, .int .i64 0] ⟨1, [(0, dO 4 m2 [])]⟩ = some (.tup [.ptr 1 0, .nili], ⟨2, [(0, dO 4 m2 []), (1, .box 84 [.ptr 0 0, .int .i64 0, .int .i64 0, vO [], .bool false])]⟩))
 : lrun Try.prog C0 (lcall Try.prog C0 (n + 100)) (n + 100) 3 [.isl 4 (opsL l), .isl 1 (bys v), .isl 1 (ints ks), .int .i64 c] ⟨0, []⟩ = some (.bool true, ⟨0, []⟩) := by
  have V : ∀ k, lrun Try.prog C0 (lcall Try.prog C0 (k + 60)) (k + 60) 16 [.ptr 0 0] ⟨2, [(0, sO 0 0 (vO []) false), (1, dO 4 m' [])]⟩ = some (.isl 1 (bys []), ⟨2, [(0, sO 0 0 (vO []) false), (1, dO 4 m' [])]⟩) := fun k => value_okO k 0 0 [] false 4 m' [] (by simp)
  have T : ∀ k, lrun Try.prog C0 (lcall Try.prog C0 (k + 60)) (k + 60) 17 [.ptr 0 0] ⟨2, [(0, sO 0 0 (vO []) false), (1, dO 4 m' [])]⟩ = some (.int .i64 0, ⟨2, [(0, sO 0 0 (vO []) false), (1, dO 4 m' [])]⟩) := fun k => turn_okO k 0 0 [] false 4 m' []
  have V2 : ∀ k, lrun Try.prog C0 (lcall Try.prog C0 (k + 60)) (k + 60) 16 [.ptr 0 0] ⟨2, [(0, sO 0 0 (vO []) false), (1, dO 4 m2 [])]⟩ = some (.isl 1 (bys []), ⟨2, [(0, sO 0 0 (vO []) false), (1, dO 4 m2 [])]⟩) := fun k => value_okO k 0 0 [] false 4 m2 [] (by simp)
  have T2 : ∀ k, lrun Try.prog C0 (lcall Try.prog C0 (k + 60)) (k + 60) 17 [.ptr 0 0] ⟨2, [(0, sO 0 0 (vO []) false), (1, dO 4 m2 [])]⟩ = some (.int .i64 0, ⟨2, [(0, sO 0 0 (vO []) false), (1, dO 4 m2 [])]⟩) := fun k => turn_okO k 0 0 [] false 4 m2 []
  have E : lrun Try.prog C0 (lcall Try.prog C0 (n + 99)) (n + 99) 9 [.isl 4 (opsL l)] ⟨0, []⟩ = some (.bool true, ⟨0, []⟩) := by
    have := light_any n l
    rw [hlt] at this
    exact this
  have f1 := E
  have f2 : LV.bool (if false = true then true else decide (47 < (↑(List.length (bys v)) : Int))) = LV.bool false := by (simp [-List.reduceReplicate]; omega)
  have f3 : LV.bool (if false = true then true else decide (20 < (↑(List.length (ints ks)) : Int))) = LV.bool false := by (simp [-List.reduceReplicate]; omega)
  have f4 := new_ok (n + 89) 4 (by omega) (by omega)
  have f5 := O0 (n + 19)
  have f6 := L
  have f7 := Y (n + 38)
  have f8 := V (n + 39)
  have f9 := T (n + 39)
  have f10 := S (n + 39)
  have f11 := Z (n + 39)
  have f12 := O (n + 19)
  have f13 := T2 (n + 39)
  have f14 := V2 (n + 39)
  have f15 : lrun Try.prog C0 (lcall Try.prog C0 (n + 99)) (n + 99) 18 [LV.isl 1 [], LV.isl 1 []] (St.mk 0 []) = some (LV.bool true, St.mk 0 []) := by kernel_rfl
  have f16 := hw
  exact drun_ok (fun h => And.intro (f1) <| And.intro (f2) <| And.intro (f3) <| And.intro (f4) <| And.intro (f5) <| And.intro (Eq.refl (tidyOf f6)) <| And.intro (f6) <| And.intro (f7) <| And.intro (f8) <| And.intro (f9) <| And.intro (f10) <| And.intro (f11) <| And.intro (f12) <| And.intro (f13) <| And.intro (f14) <| And.intro (f15) <| And.intro (f16) <| h) (.s (.a) (.s (.s (.r [.a, .f (rOf f1), .a, .a, .a, .a, .a, .v (vOf f2) (.a), .a, .a, .a, .a, .v (vOf f3) (.a)]) (.a)) (.s (.r [.f (rOf f4)]) (.s (.a) (.s (.r [.a, .f (rOf f5)]) (.s (.s (.a) (.k (.l (.h [] (eOf f6) (stOf f6) (rOf f6))))) (.s (.a) (.s (.r [.a, .f (rOf f7)]) (.s (.r [.a, .f (rOf f8), .a, .f (rOf f9)]) (.s (.s (.r [.a, .a, .f (rOf f10)]) (.a)) (.s (.r [.a, .a, .a, .f (rOf f11)]) (.s (.r [.a, .f (rOf f12)]) (.s (.a) (.s (.s (.r [.a, .f (rOf f13)]) (.c (.s (.r [.a, .f (rOf f14), .a, .f (rOf f15), .a, .f (rOf f16)]) (.a)))) .a)))))))))))))) [] .a (by kernel_rfl)

theorem ke_tailOIsame (n : Nat) (l : List Act4) (hl : l.length ≤ 60) (v ks : List Int) (c : Int) (i : Int) (t : Int) (w : List Int) (m m' : List (Int × List Int)) (a : Int) (b : List Int) (m2 : List (Int × List Int)) (a2 : Int) (b2 : List Int)
    (hlt : lightB l = true) (hv : v.length ≤ 47) (hk : ks.length ≤ 20) (ht0 : 0 ≤ t) (ht : t ≤ 200) (hw2 : w.length ≤ 47)
    (O0 : ∀ k, lrun Try.prog C0 (lcall Try.prog C0 (k + 80)) (k + 80) 12 [.ptr 0 0, .int .i64 0] ⟨1, [(0, dO 4 [] [])]⟩ = some (.tup [.ptr 1 0, .nili], ⟨2, [(0, dO 4 [] []), (1, .box 84 [.ptr 0 0, .int .i64 0, .int .i64 0, vO [], .bool false])]⟩))
    (hw : lrun Try.prog C0 (lcall Try.prog C0 (n + 99)) (n + 99) 10 [] ⟨0, []⟩ = some (.bool true, ⟨0, []⟩))
    (L : loopAt Try.prog C0 (n + 100) 3 0 0 (n + 100) (keE l v ks c 0) ⟨2, [(0, dO 4 [] []), (1, sQ 0 (vO []) false)]⟩ = some (.exit 0, keX l v ks c i, ⟨2, [(0, dO 4 m []), (1, sQ t (vO w) false)]⟩))
    (Y : ∀ k, lrun Try.prog C0 (lcall Try.prog C0 (k + 61)) (k + 61) 14 [.ptr 0 0] ⟨2, [(0, sO 0 t (vO w) false), (1, dO 4 m [])]⟩ = some (.tup [], ⟨2, [(0, sO 0 t (vO w) false), (1, dO 4 m' [])]⟩))
    (S : ∀ k, lrun Try.prog C0 (lcall Try.prog C0 (k + 60)) (k + 60) 13 [.ptr 0 0, .isl 1 (bys v)] ⟨2, [(0, sO 0 t (vO w) false), (1, dO 4 m' [])]⟩ = some (.nili, ⟨2, [(0, sO 0 (t + 1) (vO v) true), (1, dO 4 m' [(a2, some b2)])]⟩))
    (Z : ∀ k, lrun Try.prog C0 (lcall Try.prog C0 (k + 60)) (k + 60) 15 [.ptr 0 0, .isl 1 (ints ks), .int .i64 c] ⟨1, [(0, dO 4 m' [(a2, some b2)])]⟩ = some (.tup [], ⟨1, [(0, dO 4 m2 [])]⟩))
    (O : ∀ k, lrun Try.prog C0 (lcall Try.prog C0 (k + 80)) (k + 80) 12 [.ptr 0 0, .int .i64 0] ⟨1, [(0, dO 4 m2 [])]⟩ = some (.tup [.ptr 1 0, .nili], ⟨2, [(0, dO 4 m2 []), (1, .box 84 [.ptr 0 0, .int .i64 0, .int .i64 t, vI w, .bool false])]⟩))
 : lrun Try.prog C0 (lcall Try.prog C0 (n + 100)) (n + 100) 3 [.isl 4 (opsL l), .isl 1 (bys v), .isl 1 (ints ks), .int .i64 c] ⟨0, []⟩ = some (.bool true, ⟨0, []⟩) := by
  have V : ∀ k, lrun Try.prog C0 (lcall Try.prog C0 (k + 60)) (k + 60) 16 [.ptr 0 0] ⟨2, [(0, sO 0 t (vO w) false), (1, dO 4 m' [])]⟩ = some (.isl 1 (bys w), ⟨2, [(0, sO 0 t (vO w) false), (1, dO 4 m' [])]⟩) := fun k => value_okO k 0 t w false 4 m' [] (by omega)
  have T : ∀ k, lrun Try.prog C0 (lcall Try.prog C0 (k + 60)) (k + 60) 17 [.ptr 0 0] ⟨2, [(0, sO 0 t (vO w) false), (1, dO 4 m' [])]⟩ = some (.int .i64 t, ⟨2, [(0, sO 0 t (vO w) false), (1, dO 4 m' [])]⟩) := fun k => turn_okO k 0 t w false 4 m' []
  have V2 : ∀ k, lrun Try.prog C0 (lcall Try.prog C0 (k + 60)) (k + 60) 16 [.ptr 0 0] ⟨2, [(0, sO 0 t (vI w) false), (1, dO 4 m2 [])]⟩ = some (.isl 1 (bys w), ⟨2, [(0, sO 0 t (vI w) false), (1, dO 4 m2 [])]⟩) := fun k => value_okI k 0 t w false 4 m2 [] (by omega)
  have T2 : ∀ k, lrun Try.prog C0 (lcall Try.prog C0 (k + 60)) (k + 60) 17 [.ptr 0 0] ⟨2, [(0, sO 0 t (vI w) false), (1, dO 4 m2 [])]⟩ = some (.int .i64 t, ⟨2, [(0, sO 0 t (vI w) false), (1, dO 4 m2 [])]⟩) := fun k => turn_okI k 0 t w false 4 m2 []
  have E : lrun Try.prog C0 (lcall Try.prog C0 (n + 99)) (n + 99) 9 [.isl 4 (opsL l)] ⟨0, []⟩ = some (.bool true, ⟨0, []⟩) := by
    have := light_any n l
    rw [hlt] at this
    exact this
  have f1 := E
  have f2 : LV.bool (if false = true then true else decide (47 < (↑(List.length (bys v)) : Int))) = LV.bool false := by (simp [-List.reduceReplicate]; omega)
  have f3 : LV.bool (if false = true then true else decide (20 < (↑(List.length (ints ks)) : Int))) = LV.bool false := by (simp [-List.reduceReplicate]; omega)
  have f4 := new_ok (n + 89) 4 (by omega) (by omega)
  have f5 := O0 (n + 19)
  have f6 := L
  have f7 := Y (n + 38)
  have f8 := V (n + 39)
  have f9 := T (n + 39)
  have f10 := S (n + 39)
  have f11 := Z (n + 39)
  have f12 := O (n + 19)
  have f13 := T2 (n + 39)
  have f14 : decide (t = t) = true := by simp
  have f15 := V2 (n + 39)
  have f16 := same_ok (n + 79) w (by omega) (by omega)
  have f17 := hw
  exact drun_ok (fun h => And.intro (f1) <| And.intro (f2) <| And.intro (f3) <| And.intro (f4) <| And.intro (f5) <| And.intro (Eq.refl (tidyOf f6)) <| And.intro (f6) <| And.intro (f7) <| And.intro (f8) <| And.intro (f9) <| And.intro (f10) <| And.intro (f11) <| And.intro (f12) <| And.intro (f13) <| And.intro (congrArg LV.bool f14) <| And.intro (f15) <| And.intro (f16) <| And.intro (f17) <| h) (.s (.a) (.s (.s (.r [.a, .f (rOf f1), .a, .a, .a, .a, .a, .v (vOf f2) (.a), .a, .a, .a, .a, .v (vOf f3) (.a)]) (.a)) (.s (.r [.f (rOf f4)]) (.s (.a) (.s (.r [.a, .f (rOf f5)]) (.s (.s (.a) (.k (.l (.h [] (eOf f6) (stOf f6) (rOf f6))))) (.s (.a) (.s (.r [.a, .f (rOf f7)]) (.s (.r [.a, .f (rOf f8), .a, .f (rOf f9)]) (.s (.s (.r [.a, .a, .f (rOf f10)]) (.a)) (.s (.r [.a, .a, .a, .f (rOf f11)]) (.s (.r [.a, .f (rOf f12)]) (.s (.a) (.s (.s (.r [.a, .f (rOf f13)]) (.b true (.s (.r [.a, .f (rOf f15), .a, .f (rOf f16), .a, .f (rOf f17)]) (.a)))) .a)))))))))))))) [] .a (by kernel_rfl)

theorem ke_tailOInext (n : Nat) (l : List Act4) (hl : l.length ≤ 60) (v ks : List Int) (c : Int) (i : Int) (t : Int) (w : List Int) (m m' : List (Int × List Int)) (a : Int) (b : List Int) (m2 : List (Int × List Int)) (a2 : Int) (b2 : List Int)
    (hlt : lightB l = true) (hv : v.length ≤ 47) (hk : ks.length ≤ 20) (ht0 : 0 ≤ t) (ht : t ≤ 200) (hw2 : w.length ≤ 47)
    (O0 : ∀ k, lrun Try.prog C0 (lcall Try.prog C0 (k + 80)) (k + 80) 12 [.ptr 0 0, .int .i64 0] ⟨1, [(0, dO 4 [] [])]⟩ = some (.tup [.ptr 1 0, .nili], ⟨2, [(0, dO 4 [] []), (1, .box 84 [.ptr 0 0, .int .i64 0, .int .i64 0, vO [], .bool false])]⟩))
    (hw : lrun Try.prog C0 (lcall Try.prog C0 (n + 99)) (n + 99) 10 [] ⟨0, []⟩ = some (.bool true, ⟨0, []⟩))
    (L : loopAt Try.prog C0 (n + 100) 3 0 0 (n + 100) (keE l v ks c 0) ⟨2, [(0, dO 4 [] []), (1, sQ 0 (vO []) false)]⟩ = some (.exit 0, keX l v ks c i, ⟨2, [(0, dO 4 m []), (1, sQ t (vO w) false)]⟩))
    (Y : ∀ k, lrun Try.prog C0 (lcall Try.prog C0 (k + 61)) (k + 61) 14 [.ptr 0 0] ⟨2, [(0, sO 0 t (vO w) false), (1, dO 4 m [])]⟩ = some (.tup [], ⟨2, [(0, sO 0 t (vO w) false), (1, dO 4 m' [])]⟩))
    (S : ∀ k, lrun Try.prog C0 (lcall Try.prog C0 (k + 60)) (k + 60) 13 [.ptr 0 0, .isl 1 (bys v)] ⟨2, [(0, sO 0 t (vO w) false), (1, dO 4 m' [])]⟩ = some (.nili, ⟨2, [(0, sO 0 (t + 1) (vO v) true), (1, dO 4 m' [(a2, some b2)])]⟩))
    (Z : ∀ k, lrun Try.prog C0 (lcall Try.prog C0 (k + 60)) (k + 60) 15 [.ptr 0 0, .isl 1 (ints ks), .int .i64 c] ⟨1, [(0, dO 4 m' [(a2, some b2)])]⟩ = some (.tup [], ⟨1, [(0, dO 4 m2 [])]⟩))
    (O : ∀ k, lrun Try.prog C0 (lcall Try.prog C0 (k + 80)) (k + 80) 12 [.ptr 0 0, .int .i64 0] ⟨1, [(0, dO 4 m2 [])]⟩ = some (.tup [.ptr 1 0, .nili], ⟨2, [(0, dO 4 m2 []), (1, .box 84 [.ptr 0 0, .int .i64 0, .int .i64 (t + 1), vI v, .bool false])]⟩))
 : lrun Try.prog C0 (lcall Try.prog C0 (n + 100)) (n + 100) 3 [.isl 4 (opsL l), .isl 1 (bys v), .isl 1 (ints ks), .int .i64 c] ⟨0, []⟩ = some (.bool true, ⟨0, []⟩) := by
  have V : ∀ k, lrun Try.prog C0 (lcall Try.prog C0 (k + 60)) (k + 60) 16 [.ptr 0 0] ⟨2, [(0, sO 0 t (vO w) false), (1, dO 4 m' [])]⟩ = some (.isl 1 (bys w), ⟨2, [(0, sO 0 t (vO w) false), (1, dO 4 m' [])]⟩) := fun k => value_okO k 0 t w false 4 m' [] (by omega)
  have T : ∀ k, lrun Try.prog C0 (lcall Try.prog C0 (k + 60)) (k + 60) 17 [.ptr 0 0] ⟨2, [(0, sO 0 t (vO w) false), (1, dO 4 m' [])]⟩ = some (.int .i64 t, ⟨2, [(0, sO 0 t (vO w) false), (1, dO 4 m' [])]⟩) := fun k => turn_okO k 0 t w false 4 m' []
  have V2 : ∀ k, lrun Try.prog C0 (lcall Try.prog C0 (k + 60)) (k + 60) 16 [.ptr 0 0] ⟨2, [(0, sO 0 (t + 1) (vI v) false), (1, dO 4 m2 [])]⟩ = some (.isl 1 (bys v), ⟨2, [(0, sO 0 (t + 1) (vI v) false), (1, dO 4 m2 [])]⟩) := fun k => value_okI k 0 (t + 1) v false 4 m2 [] (by omega)
  have T2 : ∀ k, lrun Try.prog C0 (lcall Try.prog C0 (k + 60)) (k + 60) 17 [.ptr 0 0] ⟨2, [(0, sO 0 (t + 1) (vI v) false), (1, dO 4 m2 [])]⟩ = some (.int .i64 (t + 1), ⟨2, [(0, sO 0 (t + 1) (vI v) false), (1, dO 4 m2 [])]⟩) := fun k => turn_okI k 0 (t + 1) v false 4 m2 []
  have E : lrun Try.prog C0 (lcall Try.prog C0 (n + 99)) (n + 99) 9 [.isl 4 (opsL l)] ⟨0, []⟩ = some (.bool true, ⟨0, []⟩) := by
    have := light_any n l
    rw [hlt] at this
    exact this
  have f1 := E
  have f2 : LV.bool (if false = true then true else decide (47 < (↑(List.length (bys v)) : Int))) = LV.bool false := by (simp [-List.reduceReplicate]; omega)
  have f3 : LV.bool (if false = true then true else decide (20 < (↑(List.length (ints ks)) : Int))) = LV.bool false := by (simp [-List.reduceReplicate]; omega)
  have f4 := new_ok (n + 89) 4 (by omega) (by omega)
  have f5 := O0 (n + 19)
  have f6 := L
  have f7 := Y (n + 38)
  have f8 := V (n + 39)
  have f9 := T (n + 39)
  have f10 := S (n + 39)
  have f11 := Z (n + 39)
  have f12 := O (n + 19)
  have f13 := T2 (n + 39)
  have f14 : decide (t + 1 = t) = false := by (simp [-List.reduceReplicate]; omega)
  have f15 := T2 (n + 39)
  have f16 : LV.int IntKind.i64 (IntKind.wrap IntKind.i64 (t + 1)) = LV.int IntKind.i64 (t + 1) := by simp (disch := omega) [-List.reduceReplicate]
  have f17 : decide (t + 1 = t + 1) = true := by simp
  have f18 := V2 (n + 39)
  have f19 := same_ok (n + 79) v (by omega) (by omega)
  have f20 : LV.bool (if decide (t + 1 = t + 1) = true then true else false) = LV.bool true := by simp
  have f21 := hw
  exact drun_ok (fun h => And.intro (f1) <| And.intro (f2) <| And.intro (f3) <| And.intro (f4) <| And.intro (f5) <| And.intro (Eq.refl (tidyOf f6)) <| And.intro (f6) <| And.intro (f7) <| And.intro (f8) <| And.intro (f9) <| And.intro (f10) <| And.intro (f11) <| And.intro (f12) <| And.intro (f13) <| And.intro (congrArg LV.bool f14) <| And.intro (f15) <| And.intro (f16) <| And.intro (congrArg some f17) <| And.intro (congrArg some f17) <| And.intro (f18) <| And.intro (congrArg some f17) <| And.intro (congrArg some f17) <| And.intro (f19) <| And.intro (f20) <| And.intro (f21) <| h) (.s (.a) (.s (.s (.r [.a, .f (rOf f1), .a, .a, .a, .a, .a, .v (vOf f2) (.a), .a, .a, .a, .a, .v (vOf f3) (.a)]) (.a)) (.s (.r [.f (rOf f4)]) (.s (.a) (.s (.r [.a, .f (rOf f5)]) (.s (.s (.a) (.k (.l (.h [] (eOf f6) (stOf f6) (rOf f6))))) (.s (.a) (.s (.r [.a, .f (rOf f7)]) (.s (.r [.a, .f (rOf f8), .a, .f (rOf f9)]) (.s (.s (.r [.a, .a, .f (rOf f10)]) (.a)) (.s (.r [.a, .a, .a, .f (rOf f11)]) (.s (.r [.a, .f (rOf f12)]) (.s (.a) (.s (.s (.r [.a, .f (rOf f13)]) (.b false (.a))) (.s (.r [.a, .f (rOf f15), .a, .v (vOf f16) (.a), .a, .a, .g true (.a), .g true (.f (rOf f18)), .g true (.a), .g true (.f (rOf f19)), .v (vOf f20) (.a), .a, .f (rOf f21)]) (.a)))))))))))))))) [] .a (by kernel_rfl)

theorem ke_tailIIsame (n : Nat) (l : List Act4) (hl : l.length ≤ 60) (v ks : List Int) (c : Int) (i : Int) (t : Int) (w : List Int) (m m' : List (Int × List Int)) (a : Int) (b : List Int) (m2 : List (Int × List Int)) (a2 : Int) (b2 : List Int)
    (hlt : lightB l = true) (hv : v.length ≤ 47) (hk : ks.length ≤ 20) (ht0 : 0 ≤ t) (ht : t ≤ 200) (hw2 : w.length ≤ 47)
    (O0 : ∀ k, lrun Try.prog C0 (lcall Try.prog C0 (k + 80)) (k + 80) 12 [.ptr 0 0, .int .i64 0] ⟨1, [(0, dO 4 [] [])]⟩ = some (.tup [.ptr 1 0, .nili], ⟨2, [(0, dO 4 [] []), (1, .box 84 [.ptr 0 0, .int .i64 0, .int .i64 0, vO [], .bool false])]⟩))
    (hw : lrun Try.prog C0 (lcall Try.prog C0 (n + 99)) (n + 99) 10 [] ⟨0, []⟩ = some (.bool true, ⟨0, []⟩))
    (L : loopAt Try.prog C0 (n + 100) 3 0 0 (n + 100) (keE l v ks c 0) ⟨2, [(0, dO 4 [] []), (1, sQ 0 (vO []) false)]⟩ = some (.exit 0, keX l v ks c i, ⟨2, [(0, dO 4 m []), (1, sQ t (vI w) false)]⟩))
    (Y : ∀ k, lrun Try.prog C0 (lcall Try.prog C0 (k + 61)) (k + 61) 14 [.ptr 0 0] ⟨2, [(0, sO 0 t (vI w) false), (1, dO 4 m [])]⟩ = some (.tup [], ⟨2, [(0, sO 0 t (vI w) false), (1, dO 4 m' [])]⟩))
    (S : ∀ k, lrun Try.prog C0 (lcall Try.prog C0 (k + 60)) (k + 60) 13 [.ptr 0 0, .isl 1 (bys v)] ⟨2, [(0, sO 0 t (vI w) false), (1, dO 4 m' [])]⟩ = some (.nili, ⟨2, [(0, sO 0 (t + 1) (vO v) true), (1, dO 4 m' [(a2, some b2)])]⟩))
    (Z : ∀ k, lrun Try.prog C0 (lcall Try.prog C0 (k + 60)) (k + 60) 15 [.ptr 0 0, .isl 1 (ints ks), .int .i64 c] ⟨1, [(0, dO 4 m' [(a2, some b2)])]⟩ = some (.tup [], ⟨1, [(0, dO 4 m2 [])]⟩))
    (O : ∀ k, lrun Try.prog C0 (lcall Try.prog C0 (k + 80)) (k + 80) 12 [.ptr 0 0, .int .i64 0] ⟨1, [(0, dO 4 m2 [])]⟩ = some (.tup [.ptr 1 0, .nili], ⟨2, [(0, dO 4 m2 []), (1, .box 84 [.ptr 0 0, .int .i64 0, .int .i64 t, vI w, .bool false])]⟩))
 : lrun Try.prog C0 (lcall Try.prog C0 (n + 100)) (n + 100) 3 [.isl 4 (opsL l), .isl 1 (bys v), .isl 1 (ints ks), .int .i64 c] ⟨0, []⟩ = some (.bool true, ⟨0, []⟩) := by
  have V : ∀ k, lrun Try.prog C0 (lcall Try.prog C0 (k + 60)) (k + 60) 16 [.ptr 0 0] ⟨2, [(0, sO 0 t (vI w) false), (1, dO 4 m' [])]⟩ = some (.isl 1 (bys w), ⟨2, [(0, sO 0 t (vI w) false), (1, dO 4 m' [])]⟩) := fun k => value_okI k 0 t w false 4 m' [] (by omega)
  have T : ∀ k, lrun Try.prog C0 (lcall Try.prog C0 (k + 60)) (k + 60) 17 [.ptr 0 0] ⟨2, [(0, sO 0 t (vI w) false), (1, dO 4 m' [])]⟩ = some (.int .i64 t, ⟨2, [(0, sO 0 t (vI w) false), (1, dO 4 m' [])]⟩) := fun k => turn_okI k 0 t w false 4 m' []
  have V2 : ∀ k, lrun Try.prog C0 (lcall Try.prog C0 (k + 60)) (k + 60) 16 [.ptr 0 0] ⟨2, [(0, sO 0 t (vI w) false), (1, dO 4 m2 [])]⟩ = some (.isl 1 (bys w), ⟨2, [(0, sO 0 t (vI w) false), (1, dO 4 m2 [])]⟩) := fun k => value_okI k 0 t w false 4 m2 [] (by omega)
  have T2 : ∀ k, lrun Try.prog C0 (lcall Try.prog C0 (k + 60)) (k + 60) 17 [.ptr 0 0] ⟨2, [(0, sO 0 t (vI w) false), (1, dO 4 m2 [])]⟩ = some (.int .i64 t, ⟨2, [(0, sO 0 t (vI w) false), (1, dO 4 m2 [])]⟩) := fun k => turn_okI k 0 t w false 4 m2 []
  have E : lrun Try.prog C0 (lcall Try.prog C0 (n + 99)) (n + 99) 9 [.isl 4 (opsL l)] ⟨0, []⟩ = some (.bool true, ⟨0, []⟩) := by
    have := light_any n l
    rw [hlt] at this
    exact this
  have f1 := E
  have f2 : LV.bool (if false = true then true else decide (47 < (↑(List.length (bys v)) : Int))) = LV.bool false := by (simp [-List.reduceReplicate]; omega)
  have f3 : LV.bool (if false = true then true else decide (20 < (↑(List.length (ints ks)) : Int))) = LV.bool false := by (simp [-List.reduceReplicate]; omega)
  have f4 := new_ok (n + 89) 4 (by omega) (by omega)
  have f5 := O0 (n + 19)
  have f6 := L
  have f7 := Y (n + 38)
  have f8 := V (n + 39)
  have f9 := T (n + 39)
  have f10 := S (n + 39)
  have f11 := Z (n + 39)
  have f12 := O (n + 19)
  have f13 := T2 (n + 39)
  have f14 : decide (t = t) = true := by simp
  have f15 := V2 (n + 39)
  have f16 := same_ok (n + 79) w (by omega) (by omega)
  have f17 := hw
  exact drun_ok (fun h => And.intro (f1) <| And.intro (f2) <| And.intro (f3) <| And.intro (f4) <| And.intro (f5) <| And.intro (Eq.refl (tidyOf f6)) <| And.intro (f6) <| And.intro (f7) <| And.intro (f8) <| And.intro (f9) <| And.intro (f10) <| And.intro (f11) <| And.intro (f12) <| And.intro (f13) <| And.intro (congrArg LV.bool f14) <| And.intro (f15) <| And.intro (f16) <| And.intro (f17) <| h) (.s (.a) (.s (.s (.r [.a, .f (rOf f1), .a, .a, .a, .a, .a, .v (vOf f2) (.a), .a, .a, .a, .a, .v (vOf f3) (.a)]) (.a)) (.s (.r [.f (rOf f4)]) (.s (.a) (.s (.r [.a, .f (rOf f5)]) (.s (.s (.a) (.k (.l (.h [] (eOf f6) (stOf f6) (rOf f6))))) (.s (.a) (.s (.r [.a, .f (rOf f7)]) (.s (.r [.a, .f (rOf f8), .a, .f (rOf f9)]) (.s (.s (.r [.a, .a, .f (rOf f10)]) (.a)) (.s (.r [.a, .a, .a, .f (rOf f11)]) (.s (.r [.a, .f (rOf f12)]) (.s (.a) (.s (.s (.r [.a, .f (rOf f13)]) (.b true (.s (.r [.a, .f (rOf f15), .a, .f (rOf f16), .a, .f (rOf f17)]) (.a)))) .a)))))))))))))) [] .a (by kernel_rfl)

theorem ke_tailIInext (n : Nat) (l : List Act4) (hl : l.length ≤ 60) (v ks : List Int) (c : Int) (i : Int) (t : Int) (w : List Int) (m m' : List (Int × List Int)) (a : Int) (b : List Int) (m2 : List (Int × List Int)) (a2 : Int) (b2 : List Int)
    (hlt : lightB l = true) (hv : v.length ≤ 47) (hk : ks.length ≤ 20) (ht0 : 0 ≤ t) (ht : t ≤ 200) (hw2 : w.length ≤ 47)
    (O0 : ∀ k, lrun Try.prog C0 (lcall Try.prog C0 (k + 80)) (k + 80) 12 [.ptr 0 0, .int .i64 0] ⟨1, [(0, dO 4 [] [])]⟩ = some (.tup [.ptr 1 0, .nili], ⟨2, [(0, dO 4 [] []), (1, .box 84 [.ptr 0 0, .int .i64 0, .int .i64 0, vO [], .bool false])]⟩))
    (hw : lrun Try.prog C0 (lcall Try.prog C0 (n + 99)) (n + 99) 10 [] ⟨0, []⟩ = some (.bool true, ⟨0, []⟩))
    (L : loopAt Try.prog C0 (n + 100) 3 0 0 (n + 100) (keE l v ks c 0) ⟨2, [(0, dO 4 [] []), (1, sQ 0 (vO []) false)]⟩ = some (.exit 0, keX l v ks c i, ⟨2, [(0, dO 4 m []), (1, sQ t (vI w) false)]⟩))
    (Y : ∀ k, lrun Try.prog C0 (lcall Try.prog C0 (k + 61)) (k + 61) 14 [.ptr 0 0] ⟨2, [(0, sO 0 t (vI w) false), (1, dO 4 m [])]⟩ = some (.tup [], ⟨2, [(0, sO 0 t (vI w) false), (1, dO 4 m' [])]⟩))
    (S : ∀ k, lrun Try.prog C0 (lcall Try.prog C0 (k + 60)) (k + 60) 13 [.ptr 0 0, .isl 1 (bys v)] ⟨2, [(0, sO 0 t (vI w) false), (1, dO 4 m' [])]⟩ = some (.nili, ⟨2, [(0, sO 0 (t + 1) (vO v) true), (1, dO 4 m' [(a2, some b2)])]⟩))
    (Z : ∀ k, lrun Try.prog C0 (lcall Try.prog C0 (k + 60)) (k + 60) 15 [.ptr 0 0, .isl 1 (ints ks), .int .i64 c] ⟨1, [(0, dO 4 m' [(a2, some b2)])]⟩ = some (.tup [], ⟨1, [(0, dO 4 m2 [])]⟩))
    (O : ∀ k, lrun Try.prog C0 (lcall Try.prog C0 (k + 80)) (k + 80) 12 [.ptr 0 0, .int .i64 0] ⟨1, [(0, dO 4 m2 [])]⟩ = some (.tup [.ptr 1 0, .nili], ⟨2, [(0, dO 4 m2 []), (1, .box 84 [.ptr 0 0, .int .i64 0, .int .i64 (t + 1), vI v, .bool false])]⟩))
 : lrun Try.prog C0 (lcall Try.prog C0 (n + 100)) (n + 100) 3 [.isl 4 (opsL l), .isl 1 (bys v), .isl 1 (ints ks), .int .i64 c] ⟨0, []⟩ = some (.bool true, ⟨0, []⟩) := by
  have V : ∀ k, lrun Try.prog C0 (lcall Try.prog C0 (k + 60)) (k + 60) 16 [.ptr 0 0] ⟨2, [(0, sO 0 t (vI w) false), (1, dO 4 m' [])]⟩ = some (.isl 1 (bys w), ⟨2, [(0, sO 0 t (vI w) false), (1, dO 4 m' [])]⟩) := fun k => value_okI k 0 t w false 4 m' [] (by omega)
  have T : ∀ k, lrun Try.prog C0 (lcall Try.prog C0 (k + 60)) (k + 60) 17 [.ptr 0 0] ⟨2, [(0, sO 0 t (vI w) false), (1, dO 4 m' [])]⟩ = some (.int .i64 t, ⟨2, [(0, sO 0 t (vI w) false), (1, dO 4 m' [])]⟩) := fun k => turn_okI k 0 t w false 4 m' []
  have V2 : ∀ k, lrun Try.prog C0 (lcall Try.prog C0 (k + 60)) (k + 60) 16 [.ptr 0 0] ⟨2, [(0, sO 0 (t + 1) (vI v) false), (1, dO 4 m2 [])]⟩ = some (.isl 1 (bys v), ⟨2, [(0, sO 0 (t + 1) (vI v) false), (1, dO 4 m2 [])]⟩) := fun k => value_okI k 0 (t + 1) v false 4 m2 [] (by omega)
  have T2 : ∀ k, lrun Try.prog C0 (lcall Try.prog C0 (k + 60)) (k + 60) 17 [.ptr 0 0] ⟨2, [(0, sO 0 (t + 1) (vI v) false), (1, dO 4 m2 [])]⟩ = some (.int .i64 (t + 1), ⟨2, [(0, sO 0 (t + 1) (vI v) false), (1, dO 4 m2 [])]⟩) := fun k => turn_okI k 0 (t + 1) v false 4 m2 []
  have E : lrun Try.prog C0 (lcall Try.prog C0 (n + 99)) (n + 99) 9 [.isl 4 (opsL l)] ⟨0, []⟩ = some (.bool true, ⟨0, []⟩) := by
    have := light_any n l
    rw [hlt] at this
    exact this
  have f1 := E
  have f2 : LV.bool (if false = true then true else decide (47 < (↑(List.length (bys v)) : Int))) = LV.bool false := by (simp [-List.reduceReplicate]; omega)
  have f3 : LV.bool (if false = true then true else decide (20 < (↑(List.length (ints ks)) : Int))) = LV.bool false := by (simp [-List.reduceReplicate]; omega)
  have f4 := new_ok (n + 89) 4 (by omega) (by omega)
  have f5 := O0 (n + 19)
  have f6 := L
  have f7 := Y (n + 38)
  have f8 := V (n + 39)
  have f9 := T (n + 39)
  have f10 := S (n + 39)
  have f11 := Z (n + 39)
  have f12 := O (n + 19)
  have f13 := T2 (n + 39)
  have f14 : decide (t + 1 = t) = false := by (simp [-List.reduceReplicate]; omega)
  have f15 := T2 (n + 39)
  have f16 : LV.int IntKind.i64 (IntKind.wrap IntKind.i64 (t + 1)) = LV.int IntKind.i64 (t + 1) := by simp (disch := omega) [-List.reduceReplicate]
  have f17 : decide (t + 1 = t + 1) = true := by simp
  have f18 := V2 (n + 39)
  have f19 := same_ok (n + 79) v (by omega) (by omega)
  have f20 : LV.bool (if decide (t + 1 = t + 1) = true then true else false) = LV.bool true := by simp
  have f21 := hw
  exact drun_ok (fun h => And.intro (f1) <| And.intro (f2) <| And.intro (f3) <| And.intro (f4) <| And.intro (f5) <| And.intro (Eq.refl (tidyOf f6)) <| And.intro (f6) <| And.intro (f7) <| And.intro (f8) <| And.intro (f9) <| And.intro (f10) <| And.intro (f11) <| And.intro (f12) <| And.intro (f13) <| And.intro (congrArg LV.bool f14) <| And.intro (f15) <| And.intro (f16) <| And.intro (congrArg some f17) <| And.intro (congrArg some f17) <| And.intro (f18) <| And.intro (congrArg some f17) <| And.intro (congrArg some f17) <| And.intro (f19) <| And.intro (f20) <| And.intro (f21) <| h) (.s (.a) (.s (.s (.r [.a, .f (rOf f1), .a, .a, .a, .a, .a, .v (vOf f2) (.a), .a, .a, .a, .a, .v (vOf f3) (.a)]) (.a)) (.s (.r [.f (rOf f4)]) (.s (.a) (.s (.r [.a, .f (rOf f5)]) (.s (.s (.a) (.k (.l (.h [] (eOf f6) (stOf f6) (rOf f6))))) (.s (.a) (.s (.r [.a, .f (rOf f7)]) (.s (.r [.a, .f (rOf f8), .a, .f (rOf f9)]) (.s (.s (.r [.a, .a, .f (rOf f10)]) (.a)) (.s (.r [.a, .a, .a, .f (rOf f11)]) (.s (.r [.a, .f (rOf f12)]) (.s (.a) (.s (.s (.r [.a, .f (rOf f13)]) (.b false (.a))) (.s (.r [.a, .f (rOf f15), .a, .v (vOf f16) (.a), .a, .a, .g true (.a), .g true (.f (rOf f18)), .g true (.a), .g true (.f (rOf f19)), .v (vOf f20) (.a), .a, .f (rOf f21)]) (.a)))))))))))))))) [] .a (by kernel_rfl)

theorem ke_tailOpOsame (n : Nat) (l : List Act4) (hl : l.length ≤ 60) (v ks : List Int) (c : Int) (i : Int) (t : Int) (w : List Int) (m m' : List (Int × List Int)) (a : Int) (b : List Int) (m2 : List (Int × List Int)) (a2 : Int) (b2 : List Int)
    (hlt : lightB l = true) (hv : v.length ≤ 47) (hk : ks.length ≤ 20) (ht0 : 0 ≤ t) (ht : t ≤ 200) (hw2 : w.length ≤ 47)
    (O0 : ∀ k, lrun Try.prog C0 (lcall Try.prog C0 (k + 80)) (k + 80) 12 [.ptr 0 0, .int .i64 0] ⟨1, [(0, dO 4 [] [])]⟩ = some (.tup [.ptr 1 0, .nili], ⟨2, [(0, dO 4 [] []), (1, .box 84 [.ptr 0 0, .int .i64 0, .int .i64 0, vO [], .bool false])]⟩))
    (hw : lrun Try.prog C0 (lcall Try.prog C0 (n + 99)) (n + 99) 10 [] ⟨0, []⟩ = some (.bool true, ⟨0, []⟩))
    (L : loopAt Try.prog C0 (n + 100) 3 0 0 (n + 100) (keE l v ks c 0) ⟨2, [(0, dO 4 [] []), (1, sQ 0 (vO []) false)]⟩ = some (.exit 0, keX l v ks c i, ⟨2, [(0, dO 4 m [(a, some b)]), (1, sQ 0 (vO []) true)]⟩))
    (Y : ∀ k, lrun Try.prog C0 (lcall Try.prog C0 (k + 61)) (k + 61) 14 [.ptr 0 0] ⟨2, [(0, sO 0 0 (vO []) true), (1, dO 4 m [(a, some b)])]⟩ = some (.tup [], ⟨2, [(0, sO 0 0 (vO []) false), (1, dO 4 m' [])]⟩))
    (S : ∀ k, lrun Try.prog C0 (lcall Try.prog C0 (k + 60)) (k + 60) 13 [.ptr 0 0, .isl 1 (bys v)] ⟨2, [(0, sO 0 0 (vO []) false), (1, dO 4 m' [])]⟩ = some (.nili, ⟨2, [(0, sO 0 (0 + 1) (vO v) true), (1, dO 4 m' [(a2, some b2)])]⟩))
    (Z : ∀ k, lrun Try.prog C0 (lcall Try.prog C0 (k + 60)) (k + 60) 15 [.ptr 0 0, .isl 1 (ints ks), .int .i64 c] ⟨1, [(0, dO 4 m' [(a2, some b2)])]⟩ = some (.tup [], ⟨1, [(0, dO 4 m2 [])]⟩))
    (O : ∀ k, lrun Try.prog C0 (lcall Try.prog C0 (k + 80)) (k + 80) 12 [.ptr 0 0, .int .i64 0] ⟨1, [(0, dO 4 m2 [])]⟩ = some (.tup [.ptr 1 0, .nili], ⟨2, [(0, dO 4 m2 []), (1, .box 84 [.ptr 0 0, .int .i64 0, .int .i64 0, vO [], .bool false])]⟩))
 : lrun Try.prog C0 (lcall Try.prog C0 (n + 100)) (n + 100) 3 [.isl 4 (opsL l), .isl 1 (bys v), .isl 1 (ints ks), .int .i64 c] ⟨0, []⟩ = some (.bool true, ⟨0, []⟩) := by
  have V : ∀ k, lrun Try.prog C0 (lcall Try.prog C0 (k + 60)) (k + 60) 16 [.ptr 0 0] ⟨2, [(0, sO 0 0 (vO []) false), (1, dO 4 m' [])]⟩ = some (.isl 1 (bys []), ⟨2, [(0, sO 0 0 (vO []) false), (1, dO 4 m' [])]⟩) := fun k => value_okO k 0 0 [] false 4 m' [] (by simp)
  have T : ∀ k, lrun Try.prog C0 (lcall Try.prog C0 (k + 60)) (k + 60) 17 [.ptr 0 0] ⟨2, [(0, sO 0 0 (vO []) false), (1, dO 4 m' [])]⟩ = some (.int .i64 0, ⟨2, [(0, sO 0 0 (vO []) false), (1, dO 4 m' [])]⟩) := fun k => turn_okO k 0 0 [] false 4 m' []
  have V2 : ∀ k, lrun Try.prog C0 (lcall Try.prog C0 (k + 60)) (k + 60) 16 [.ptr 0 0] ⟨2, [(0, sO 0 0 (vO []) false), (1, dO 4 m2 [])]⟩ = some (.isl 1 (bys []), ⟨2, [(0, sO 0 0 (vO []) false), (1, dO 4 m2 [])]⟩) := fun k => value_okO k 0 0 [] false 4 m2 [] (by simp)
  have T2 : ∀ k, lrun Try.prog C0 (lcall Try.prog C0 (k + 60)) (k + 60) 17 [.ptr 0 0] ⟨2, [(0, sO 0 0 (vO []) false), (1, dO 4 m2 [])]⟩ = some (.int .i64 0, ⟨2, [(0, sO 0 0 (vO []) false), (1, dO 4 m2 [])]⟩) := fun k => turn_okO k 0 0 [] false 4 m2 []
  have E : lrun Try.prog C0 (lcall Try.prog C0 (n + 99)) (n + 99) 9 [.isl 4 (opsL l)] ⟨0, []⟩ = some (.bool true, ⟨0, []⟩) := by
    have := light_any n l
    rw [hlt] at this
    exact this
  have f1 := E
  have f2 : LV.bool (if false = true then true else decide (47 < (↑(List.length (bys v)) : Int))) = LV.bool false := by (simp [-List.reduceReplicate]; omega)
  have f3 : LV.bool (if false = true then true else decide (20 < (↑(List.length (ints ks)) : Int))) = LV.bool false := by (simp [-List.reduceReplicate]; omega)
  have f4 := new_ok (n + 89) 4 (by omega) (by omega)
  have f5 := O0 (n + 19)
  have f6 := L
  have f7 := Y (n + 38)
  have f8 := V (n + 39)
  have f9 := T (n + 39)
  have f10 := S (n + 39)
  have f11 := Z (n + 39)
  have f12 := O (n + 19)
  have f13 := T2 (n + 39)
  have f14 := V2 (n + 39)
  have f15 : lrun Try.prog C0 (lcall Try.prog C0 (n + 99)) (n + 99) 18 [LV.isl 1 [], LV.isl 1 []] (St.mk 0 []) = some (LV.bool true, St.mk 0 []) := by kernel_rfl
  have f16 := hw
  exact drun_ok (fun h => And.intro (f1) <| And.intro (f2) <| And.intro (f3) <| And.intro (f4) <| And.intro (f5) <| And.intro (Eq.refl (tidyOf f6)) <| And.intro (f6) <| And.intro (f7) <| And.intro (f8) <| And.intro (f9) <| And.intro (f10) <| And.intro (f11) <| And.intro (f12) <| And.intro (f13) <| And.intro (f14) <| And.intro (f15) <| And.intro (f16) <| h) (.s (.a) (.s (.s (.r [.a, .f (rOf f1), .a, .a, .a, .a, .a, .v (vOf f2) (.a), .a, .a, .a, .a, .v (vOf f3) (.a)]) (.a)) (.s (.r [.f (rOf f4)]) (.s (.a) (.s (.r [.a, .f (rOf f5)]) (.s (.s (.a) (.k (.l (.h [] (eOf f6) (stOf f6) (rOf f6))))) (.s (.a) (.s (.r [.a, .f (rOf f7)]) (.s (.r [.a, .f (rOf f8), .a, .f (rOf f9)]) (.s (.s (.r [.a, .a, .f (rOf f10)]) (.a)) (.s (.r [.a, .a, .a, .f (rOf f11)]) (.s (.r [.a, .f (rOf f12)]) (.s (.a) (.s (.s (.r [.a, .f (rOf f13)]) (.c (.s (.r [.a, .f (rOf f14), .a, .f (rOf f15), .a, .f (rOf f16)]) (.a)))) .a)))))))))))))) [] .a (by kernel_rfl)

theorem ke_tailOpIsame (n : Nat) (l : List Act4) (hl : l.length ≤ 60) (v ks : List Int) (c : Int) (i : Int) (t : Int) (w : List Int) (m m' : List (Int × List Int)) (a : Int) (b : List Int) (m2 : List (Int × List Int)) (a2 : Int) (b2 : List Int)
    (hlt : lightB l = true) (hv : v.length ≤ 47) (hk : ks.length ≤ 20) (ht0 : 0 ≤ t) (ht : t ≤ 200) (hw2 : w.length ≤ 47)
    (O0 : ∀ k, lrun Try.prog C0 (lcall Try.prog C0 (k + 80)) (k + 80) 12 [.ptr 0 0, .int .i64 0] ⟨1, [(0, dO 4 [] [])]⟩ = some (.tup [.ptr 1 0, .nili], ⟨2, [(0, dO 4 [] []), (1, .box 84 [.ptr 0 0, .int .i64 0, .int .i64 0, vO [], .bool false])]⟩))
    (hw : lrun Try.prog C0 (lcall Try.prog C0 (n + 99)) (n + 99) 10 [] ⟨0, []⟩ = some (.bool true, ⟨0, []⟩))
    (L : loopAt Try.prog C0 (n + 100) 3 0 0 (n + 100) (keE l v ks c 0) ⟨2, [(0, dO 4 [] []), (1, sQ 0 (vO []) false)]⟩ = some (.exit 0, keX l v ks c i, ⟨2, [(0, dO 4 m [(a, some b)]), (1, sQ t (vO w) true)]⟩))
    (Y : ∀ k, lrun Try.prog C0 (lcall Try.prog C0 (k + 61)) (k + 61) 14 [.ptr 0 0] ⟨2, [(0, sO 0 t (vO w) true), (1, dO 4 m [(a, some b)])]⟩ = some (.tup [], ⟨2, [(0, sO 0 t (vO w) false), (1, dO 4 m' [])]⟩))
    (S : ∀ k, lrun Try.prog C0 (lcall Try.prog C0 (k + 60)) (k + 60) 13 [.ptr 0 0, .isl 1 (bys v)] ⟨2, [(0, sO 0 t (vO w) false), (1, dO 4 m' [])]⟩ = some (.nili, ⟨2, [(0, sO 0 (t + 1) (vO v) true), (1, dO 4 m' [(a2, some b2)])]⟩))
    (Z : ∀ k, lrun Try.prog C0 (lcall Try.prog C0 (k + 60)) (k + 60) 15 [.ptr 0 0, .isl 1 (ints ks), .int .i64 c] ⟨1, [(0, dO 4 m' [(a2, some b2)])]⟩ = some (.tup [], ⟨1, [(0, dO 4 m2 [])]⟩))
    (O : ∀ k, lrun Try.prog C0 (lcall Try.prog C0 (k + 80)) (k + 80) 12 [.ptr 0 0, .int .i64 0] ⟨1, [(0, dO 4 m2 [])]⟩ = some (.tup [.ptr 1 0, .nili], ⟨2, [(0, dO 4 m2 []), (1, .box 84 [.ptr 0 0, .int .i64 0, .int .i64 t, vI w, .bool false])]⟩))
 : lrun Try.prog C0 (lcall Try.prog C0 (n + 100)) (n + 100) 3 [.isl 4 (opsL l), .isl 1 (bys v), .isl 1 (ints ks), .int .i64 c] ⟨0, []⟩ = some (.bool true, ⟨0, []⟩) := by
  have V : ∀ k, lrun Try.prog C0 (lcall Try.prog C0 (k + 60)) (k + 60) 16 [.ptr 0 0] ⟨2, [(0, sO 0 t (vO w) false), (1, dO 4 m' [])]⟩ = some (.isl 1 (bys w), ⟨2, [(0, sO 0 t (vO w) false), (1, dO 4 m' [])]⟩) := fun k => value_okO k 0 t w false 4 m' [] (by omega)
  have T : ∀ k, lrun Try.prog C0 (lcall Try.prog C0 (k + 60)) (k + 60) 17 [.ptr 0 0] ⟨2, [(0, sO 0 t (vO w) false), (1, dO 4 m' [])]⟩ = some (.int .i64 t, ⟨2, [(0, sO 0 t (vO w) false), (1, dO 4 m' [])]⟩) := fun k => turn_okO k 0 t w false 4 m' []
  have V2 : ∀ k, lrun Try.prog C0 (lcall Try.prog C0 (k + 60)) (k + 60) 16 [.ptr 0 0] ⟨2, [(0, sO 0 t (vI w) false), (1, dO 4 m2 [])]⟩ = some (.isl 1 (bys w), ⟨2, [(0, sO 0 t (vI w) false), (1, dO 4 m2 [])]⟩) := fun k => value_okI k 0 t w false 4 m2 [] (by omega)
  have T2 : ∀ k, lrun Try.prog C0 (lcall Try.prog C0 (k + 60)) (k + 60) 17 [.ptr 0 0] ⟨2, [(0, sO 0 t (vI w) false), (1, dO 4 m2 [])]⟩ = some (.int .i64 t, ⟨2, [(0, sO 0 t (vI w) false), (1, dO 4 m2 [])]⟩) := fun k => turn_okI k 0 t w false 4 m2 []
  have E : lrun Try.prog C0 (lcall Try.prog C0 (n + 99)) (n + 99) 9 [.isl 4 (opsL l)] ⟨0, []⟩ = some (.bool true, ⟨0, []⟩) := by
    have := light_any n l
    rw [hlt] at this
    exact this
  have f1 := E
  have f2 : LV.bool (if false = true then true else decide (47 < (↑(List.length (bys v)) : Int))) = LV.bool false := by (simp [-List.reduceReplicate]; omega)
  have f3 : LV.bool (if false = true then true else decide (20 < (↑(List.length (ints ks)) : Int))) = LV.bool false := by (simp [-List.reduceReplicate]; omega)
  have f4 := new_ok (n + 89) 4 (by omega) (by omega)
  have f5 := O0 (n + 19)
  have f6 := L
  have f7 := Y (n + 38)
  have f8 := V (n + 39)
  have f9 := T (n + 39)
  have f10 := S (n + 39)
  have f11 := Z (n + 39)
  have f12 := O (n + 19)
  have f13 := T2 (n + 39)
  have f14 : decide (t = t) = true := by simp
  have f15 := V2 (n + 39)
  have f16 := same_ok (n + 79) w (by omega) (by omega)
  have f17 := hw
  exact drun_ok (fun h => And.intro (f1) <| And.intro (f2) <| And.intro (f3) <| And.intro (f4) <| And.intro (f5) <| And.intro (Eq.refl (tidyOf f6)) <| And.intro (f6) <| And.intro (f7) <| And.intro (f8) <| And.intro (f9) <| And.intro (f10) <| And.intro (f11) <| And.intro (f12) <| And.intro (f13) <| And.intro (congrArg LV.bool f14) <| And.intro (f15) <| And.intro (f16) <| And.intro (f17) <| h) (.s (.a) (.s (.s (.r [.a, .f (rOf f1), .a, .a, .a, .a, .a, .v (vOf f2) (.a), .a, .a, .a, .a, .v (vOf f3) (.a)]) (.a)) (.s (.r [.f (rOf f4)]) (.s (.a) (.s (.r [.a, .f (rOf f5)]) (.s (.s (.a) (.k (.l (.h [] (eOf f6) (stOf f6) (rOf f6))))) (.s (.a) (.s (.r [.a, .f (rOf f7)]) (.s (.r [.a, .f (rOf f8), .a, .f (rOf f9)]) (.s (.s (.r [.a, .a, .f (rOf f10)]) (.a)) (.s (.r [.a, .a, .a, .f (rOf f11)]) (.s (.r [.a, .f (rOf f12)]) (.s (.a) (.s (.s (.r [.a, .f (rOf f13)]) (.b true (.s (.r [.a, .f (rOf f15), .a, .f (rOf f16), .a, .f (rOf f17)]) (.a)))) .a)))))))))))))) [] .a (by kernel_rfl)

theorem ke_tailOpInext (n : Nat) (l : List Act4) (hl : l.length ≤ 60) (v ks : List Int) (c : Int) (i : Int) (t : Int) (w : List Int) (m m' : List (Int × List Int)) (a : Int) (b : List Int) (m2 : List (Int × List Int)) (a2 : Int) (b2 : List Int)
    (hlt : lightB l = true) (hv : v.length ≤ 47) (hk : ks.length ≤ 20) (ht0 : 0 ≤ t) (ht : t ≤ 200) (hw2 : w.length ≤ 47)
    (O0 : ∀ k, lrun Try.prog C0 (lcall Try.prog C0 (k + 80)) (k + 80) 12 [.ptr 0 0, .int .i64 0] ⟨1, [(0, dO 4 [] [])]⟩ = some (.tup [.ptr 1 0, .nili], ⟨2, [(0, dO 4 [] []), (1, .box 84 [.ptr 0 0, .int .i64 0, .int .i64 0, vO [], .bool false])]⟩))
    (hw : lrun Try.prog C0 (lcall Try.prog C0 (n + 99)) (n + 99) 10 [] ⟨0, []⟩ = some (.bool true, ⟨0, []⟩))
    (L : loopAt Try.prog C0 (n + 100) 3 0 0 (n + 100) (keE l v ks c 0) ⟨2, [(0, dO 4 [] []), (1, sQ 0 (vO []) false)]⟩ = some (.exit 0, keX l v ks c i, ⟨2, [(0, dO 4 m [(a, some b)]), (1, sQ t (vO w) true)]⟩))
    (Y : ∀ k, lrun Try.prog C0 (lcall Try.prog C0 (k + 61)) (k + 61) 14 [.ptr 0 0] ⟨2, [(0, sO 0 t (vO w) true), (1, dO 4 m [(a, some b)])]⟩ = some (.tup [], ⟨2, [(0, sO 0 t (vO w) false), (1, dO 4 m' [])]⟩))
    (S : ∀ k, lrun Try.prog C0 (lcall Try.prog C0 (k + 60)) (k + 60) 13 [.ptr 0 0, .isl 1 (bys v)] ⟨2, [(0, sO 0 t (vO w) false), (1, dO 4 m' [])]⟩ = some (.nili, ⟨2, [(0, sO 0 (t + 1) (vO v) true), (1, dO 4 m' [(a2, some b2)])]⟩))
    (Z : ∀ k, lrun Try.prog C0 (lcall Try.prog C0 (k + 60)) (k + 60) 15 [.ptr 0 0, .isl 1 (ints ks), .int .i64 c] ⟨1, [(0, dO 4 m' [(a2, some b2)])]⟩ = some (.tup [], ⟨1, [(0, dO 4 m2 [])]⟩))
    (O : ∀ k, lrun Try.prog C0 (lcall Try.prog C0 (k + 80)) (k + 80) 12 [.ptr 0 0, .int .i64 0] ⟨1, [(0, dO 4 m2 [])]⟩ = some (.tup [.ptr 1 0, .nili], ⟨2, [(0, dO 4 m2 []), (1, .box 84 [.ptr 0 0, .int .i64 0, .int .i64 (t + 1), vI v, .bool false])]⟩))
 : lrun Try.prog C0 (lcall Try.prog C0 (n + 100)) (n + 100) 3 [.isl 4 (opsL l), .isl 1 (bys v), .isl 1 (ints ks), .int .i64 c] ⟨0, []⟩ = some (.bool true, ⟨0, []⟩) := by
  have V : ∀ k, lrun Try.prog C0 (lcall Try.prog C0 (k + 60)) (k + 60) 16 [.ptr 0 0] ⟨2, [(0, sO 0 t (vO w) false), (1, dO 4 m' [])]⟩ = some (.isl 1 (bys w), ⟨2, [(0, sO 0 t (vO w) false), (1, dO 4 m' [])]⟩) := fun k => value_okO k 0 t w false 4 m' [] (by omega)
  have T : ∀ k, lrun Try.prog C0 (lcall Try.prog C0 (k + 60)) (k + 60) 17 [.ptr 0 0] ⟨2, [(0, sO 0 t (vO w) false), (1, dO 4 m' [])]⟩ = some (.int .i64 t, ⟨2, [(0, sO 0 t (vO w) false), (1, dO 4 m' [])]⟩) := fun k => turn_okO k 0 t w false 4 m' []
  have V2 : ∀ k, lrun Try.prog C0 (lcall Try.prog C0 (k + 60)) (k + 60) 16 [.ptr 0 0] ⟨2, [(0, sO 0 (t + 1) (vI v) false), (1, dO 4 m2 [])]⟩ = some (.isl 1 (bys v), ⟨2, [(0, sO 0 (t + 1) (vI v) false), (1, dO 4 m2 [])]⟩) := fun k => value_okI k 0 (t + 1) v false 4 m2 [] (by omega)
  have T2 : ∀ k, lrun Try.prog C0 (lcall Try.prog C0 (k + 60)) (k + 60) 17 [.ptr 0 0] ⟨2, [(0, sO 0 (t + 1) (vI v) false), (1, dO 4 m2 [])]⟩ = some (.int .i64 (t + 1), ⟨2, [(0, sO 0 (t + 1) (vI v) false), (1, dO 4 m2 [])]⟩) := fun k => turn_okI k 0 (t + 1) v false 4 m2 []
  have E : lrun Try.prog C0 (lcall Try.prog C0 (n + 99)) (n + 99) 9 [.isl 4 (opsL l)] ⟨0, []⟩ = some (.bool true, ⟨0, []⟩) := by
    have := light_any n l
    rw [hlt] at this
    exact this
  have f1 := E
  have f2 : LV.bool (if false = true then true else decide (47 < (↑(List.length (bys v)) : Int))) = LV.bool false := by (simp [-List.reduceReplicate]; omega)
  have f3 : LV.bool (if false = true then true else decide (20 < (↑(List.length (ints ks)) : Int))) = LV.bool false := by (simp [-List.reduceReplicate]; omega)
  have f4 := new_ok (n + 89) 4 (by omega) (by omega)
  have f5 := O0 (n + 19)
  have f6 := L
  have f7 := Y (n + 38)
  have f8 := V (n + 39)
  have f9 := T (n + 39)
  have f10 := S (n + 39)
  have f11 := Z (n + 39)
  have f12 := O (n + 19)
  have f13 := T2 (n + 39)
  have f14 : decide (t + 1 = t) = false := by (simp [-List.reduceReplicate]; omega)
  have f15 := T2 (n + 39)
  have f16 : LV.int IntKind.i64 (IntKind.wrap IntKind.i64 (t + 1)) = LV.int IntKind.i64 (t + 1) := by simp (disch := omega) [-List.reduceReplicate]
  have f17 : decide (t + 1 = t + 1) = true := by simp
  have f18 := V2 (n + 39)
  have f19 := same_ok (n + 79) v (by omega) (by omega)
  have f20 : LV.bool (if decide (t + 1 = t + 1) = true then true else false) = LV.bool true := by simp
  have f21 := hw
  exact drun_ok (fun h => And.intro (f1) <| And.intro (f2) <| And.intro (f3) <| And.intro (f4) <| And.intro (f5) <| And.intro (Eq.refl (tidyOf f6)) <| And.intro (f6) <| And.intro (f7) <| And.intro (f8) <| And.intro (f9) <| And.intro (f10) <| And.intro (f11) <| And.intro (f12) <| And.intro (f13) <| And.intro (congrArg LV.bool f14) <| And.intro (f15) <| And.intro (f16) <| And.intro (congrArg some f17) <| And.intro (congrArg some f17) <| And.intro (f18) <| And.intro (congrArg some f17) <| And.intro (congrArg some f17) <| And.intro (f19) <| And.intro (f20) <| And.intro (f21) <| h) (.s (.a) (.s (.s (.r [.a, .f (rOf f1), .a, .a, .a, .a, .a, .v (vOf f2) (.a), .a, .a, .a, .a, .v (vOf f3) (.a)]) (.a)) (.s (.r [.f (rOf f4)]) (.s (.a) (.s (.r [.a, .f (rOf f5)]) (.s (.s (.a) (.k (.l (.h [] (eOf f6) (stOf f6) (rOf f6))))) (.s (.a) (.s (.r [.a, .f (rOf f7)]) (.s (.r [.a, .f (rOf f8), .a, .f (rOf f9)]) (.s (.s (.r [.a, .a, .f (rOf f10)]) (.a)) (.s (.r [.a, .a, .a, .f (rOf f11)]) (.s (.r [.a, .f (rOf f12)]) (.s (.a) (.s (.s (.r [.a, .f (rOf f13)]) (.b false (.a))) (.s (.r [.a, .f (rOf f15), .a, .v (vOf f16) (.a), .a, .a, .g true (.a), .g true (.f (rOf f18)), .g true (.a), .g true (.f (rOf f19)), .v (vOf f20) (.a), .a, .f (rOf f21)]) (.a)))))))))))))))) [] .a (by kernel_rfl)

theorem ke_big (n : Nat) (l : List Act4) (v ks : List Int) (c : Int) (h : lightB l = false ∨ 47 < v.length ∨ 20 < ks.length)
    (hw : lrun Try.prog C0 (lcall Try.prog C0 (n + 99)) (n + 99) 10 [] ⟨0, []⟩ = some (.bool true, ⟨0, []⟩)) : lrun Try.prog C0 (lcall Try.prog C0 (n + 100)) (n + 100) 3 [.isl 4 (opsL l), .isl 1 (bys v), .isl 1 (ints ks), .int .i64 c] ⟨0, []⟩ = some (.bool true, ⟨0, []⟩) := by
  have E : lrun Try.prog C0 (lcall Try.prog C0 (n + 99)) (n + 99) 9 [.isl 4 (opsL l)] ⟨0, []⟩ = some (.bool (lightB l), ⟨0, []⟩) := light_any n l
  cases hb : lightB l with
  | false =>
    rw [hb] at E
    have f1 := E
    have f2 := hw
    exact drun_ok (fun h => And.intro (f1) <| And.intro (f2) <| h) (.s (.a) (.s (.s (.r [.a, .f (rOf f1)]) (.c (.s (.r [.f (rOf f2)]) (.a)))) .a)) [] .a (by kernel_rfl)
  | true =>
    rw [hb] at E
    by_cases h1 : 47 < v.length
    · have f1 := E
      have f2 : LV.bool (if false = true then true else decide (47 < (↑(List.length (bys v)) : Int))) = LV.bool true := by (simp [-List.reduceReplicate]; omega)
      have f3 := hw
      exact drun_ok (fun h => And.intro (f1) <| And.intro (f2) <| And.intro (f3) <| h) (.s (.a) (.s (.s (.r [.a, .f (rOf f1), .a, .a, .a, .a, .a, .v (vOf f2) (.a)]) (.c (.s (.r [.f (rOf f3)]) (.a)))) .a)) [] .a (by kernel_rfl)
    · have h2 : 20 < ks.length := by
        rcases h with h | h | h
        · rw [hb] at h; cases h
        · omega
        · exact h
      have f1 := E
      have f2 : LV.bool (if false = true then true else decide (47 < (↑(List.length (bys v)) : Int))) = LV.bool false := by (simp [-List.reduceReplicate]; omega)
      have f3 : LV.bool (if false = true then true else decide (20 < (↑(List.length (ints ks)) : Int))) = LV.bool true := by (simp [-List.reduceReplicate]; omega)
      have f4 := hw
      exact drun_ok (fun h => And.intro (f1) <| And.intro (f2) <| And.intro (f3) <| And.intro (f4) <| h) (.s (.a) (.s (.s (.r [.a, .f (rOf f1), .a, .a, .a, .a, .a, .v (vOf f2) (.a), .a, .a, .a, .a, .v (vOf f3) (.a)]) (.c (.s (.r [.f (rOf f4)]) (.a)))) .a)) [] .a (by kernel_rfl)
end Go.Mac

namespace Go.Mac
open Go Go.Eng Go.Proofs
set_option linter.unusedVariables false
/-- The block of a turn and a length, ahead of the value. -/
def Lz (t len : Int) : List Int := [0,0,0,0,0,0,0,t,len] ++ List.replicate 47 0 ++ [0,0,0,0,0,0,0,t]
theorem enc_eq (t : Int) (v : List Int) : enc t v = spliceI (Lz t v.length) 9 v := by kernel_rfl
set_option maxRecDepth 20000 in
theorem num8_small : ∀ t : Fin 256, bits BinOp.or IntKind.u64 (IntKind.u64.wrap 0) (IntKind.u64.wrap (t.val : Int)) = (t.val : Int) := by decide +kernel
theorem Lz_length (t len : Int) : (Lz t len).length = 64 := rfl
theorem enc_length (t : Int) (v : List Int) (hv : v.length ≤ 47) : (enc t v).length = 64 := by
  rw [enc_eq, spliceI_length, Lz_length]; omega
theorem enc_head (t : Int) (v : List Int) (i : Nat) (hi : i < 9) : atI (enc t v) i = atI (Lz t v.length) i := by
  rw [enc_eq]
  unfold spliceI atI
  rw [List.getD_eq_getElem?_getD, List.getD_eq_getElem?_getD, List.append_assoc, List.getElem?_append_left (by rw [List.length_take, Lz_length]; omega), List.getElem?_take, if_pos hi]
theorem enc_tail (t : Int) (v : List Int) (hv : v.length ≤ 47) : (enc t v).drop 56 = [0,0,0,0,0,0,0,t] := by
  rw [enc_eq]
  unfold spliceI
  rw [List.drop_append, List.drop_of_length_le (by rw [List.length_append, List.length_take, Lz_length]; omega), List.nil_append, List.drop_drop, List.length_append, List.length_take, Lz_length]
  have : 9 + v.length + (56 - (min 9 64 + v.length)) = 56 := by omega
  rw [this]; rfl
theorem enc_value (t : Int) (v : List Int) : ((enc t v).drop 9).take v.length = v := by
  rw [enc_eq]
  unfold spliceI
  rw [List.append_assoc, List.drop_append_of_le_length (by rw [List.length_take, Lz_length]; omega), List.drop_of_length_le (by rw [List.length_take, Lz_length]; omega), List.nil_append, List.take_append_of_le_length (Nat.le_refl _), List.take_length]
theorem num8_of (b : List Int) (t : Int) (h0 : 0 ≤ t) (h1 : t < 256) (hz : ∀ i, i < 7 → atI b i = 0) (h7 : atI b 7 = t) : num8 b = t := by
  have e0 : bits BinOp.or IntKind.u64 0 (IntKind.u64.wrap 0) = 0 := by decide +kernel
  have e1 : stepN 0 0 = 0 := by decide +kernel
  unfold num8
  rw [hz 0 (by omega), hz 1 (by omega), hz 2 (by omega), hz 3 (by omega), hz 4 (by omega), hz 5 (by omega), hz 6 (by omega), h7, e0, e1, e1, e1, e1, e1, e1]
  have := num8_small ⟨t.toNat, by omega⟩
  have e : ((t.toNat : Nat) : Int) = t := by omega
  simp only [e] at this
  unfold stepN
  simpa using this
theorem num8_enc (t : Int) (v : List Int) (h0 : 0 ≤ t) (h1 : t < 256) : num8 (enc t v) = t := by
  refine num8_of _ t h0 h1 (fun i hi => ?_) ?_
  · rw [enc_head t v i (by omega)]
    have : i = 0 ∨ i = 1 ∨ i = 2 ∨ i = 3 ∨ i = 4 ∨ i = 5 ∨ i = 6 := by omega
    rcases this with rfl | rfl | rfl | rfl | rfl | rfl | rfl <;> rfl
  · rw [enc_head t v 7 (by omega)]; rfl
theorem last_enc (t : Int) (v : List Int) (hv : v.length ≤ 47) (h0 : 0 ≤ t) (h1 : t < 256) : num8 ((enc t v).drop 56) = t := by
  rw [enc_tail t v hv]
  refine num8_of _ t h0 h1 (fun i hi => ?_) rfl
  have : i = 0 ∨ i = 1 ∨ i = 2 ∨ i = 3 ∨ i = 4 ∨ i = 5 ∨ i = 6 := by omega
  rcases this with rfl | rfl | rfl | rfl | rfl | rfl | rfl <;> rfl
end Go.Mac

namespace Go.Mac
open Go Go.Eng Go.Proofs
set_option linter.unusedVariables false
theorem read_enc (n : Nat) (t : Int) (v : List Int) (hv : v.length ≤ 47) (h0 : 0 ≤ t) (h1 : t < 256) : lrun Try.prog C0 (lcall Try.prog C0 (n + 40)) (n + 40) 38 [.isl 1 (bys (enc t v))] ⟨0, []⟩ = some (.agg [.int .i64 t, .isl 1 (bys v)], ⟨0, []⟩) := by
  have e8 : atI (enc t v) 8 = v.length := by rw [enc_head t v 8 (by omega)]; rfl
  have := read_ok n (enc t v) (enc_length t v hv) (by rw [num8_enc t v h0 h1]; omega) (by rw [last_enc t v hv h0 h1]; omega) (by rw [num8_enc t v h0 h1, last_enc t v hv h0 h1]) (by rw [e8]; omega) (by rw [e8]; omega)
  rw [this, num8_enc t v h0 h1, e8, wrapS_i64 t (by omega) (by omega)]
  have e : ((v.length : Int)).toNat = v.length := by omega
  rw [e, enc_value]
end Go.Mac

namespace Go.Mac
open Go Go.Eng Go.Proofs
set_option linter.unusedVariables false
set_option maxHeartbeats 0
set_option maxRecDepth 100000
theorem number_big (n : Nat) (b : List Int) (hb : 8 ≤ b.length) (h : 1152921504606846976 < num8 b) : lrun Try.prog C0 (lcall Try.prog C0 (n + 20)) (n + 20) 60 [.isl 1 (bys b)] ⟨0, []⟩ = some (.int .i64 0, ⟨0, []⟩) := by
  have h' := h
  simp only [num8, stepN] at h'
  have f1 : (0 : Int) ≤ (0 : Int) ∧ (0 : Int) ≤ Option.getD (some (8 : Int)) (↑(List.length (bys b)) : Int) ∧ Option.getD (some (8 : Int)) (↑(List.length (bys b)) : Int) ≤ (↑(List.length (bys b)) : Int) := by (simp [-List.reduceReplicate]; omega)
  have f2 : LV.isl 1 (List.drop 0 (List.take 8 (bys b))) = LV.isl 1 (bys (List.take 8 b)) := by simp
  have f3 : decide (0 < (↑(List.length (bys (List.take 8 b))) : Int)) = true := by simp (disch := omega) [-List.reduceReplicate]
  have f4 : (bys (List.take 8 b))[0]? = some (LV.int IntKind.u8 (atI b 0)) := by simp (disch := first | omega | (simp; omega)) [-List.reduceReplicate]
  have f5 : (0 : Int) ≤ (0 : Int) ∧ (0 : Int) < (↑(List.length (bys (List.take (8 : Nat) b))) : Int) := by simp (disch := omega) [-List.reduceReplicate]
  have f6 : LV.int IntKind.i64 (↑(List.length (bys (List.take 8 b))) : Int) = LV.int IntKind.i64 8 := by simp (disch := omega) [-List.reduceReplicate]
  have f7 : LV.bool (decide (0 < (↑(List.length (bys (List.take 8 b))) : Int))) = LV.bool true := by simp (disch := omega) [-List.reduceReplicate]
  have f8 : (bys (List.take 8 b))[1]? = some (LV.int IntKind.u8 (atI b 1)) := by simp (disch := first | omega | (simp; omega)) [-List.reduceReplicate]
  have f9 : (0 : Int) ≤ (1 : Int) ∧ (1 : Int) < (↑(List.length (bys (List.take (8 : Nat) b))) : Int) := by simp (disch := omega) [-List.reduceReplicate]
  have f10 : (bys (List.take 8 b))[2]? = some (LV.int IntKind.u8 (atI b 2)) := by simp (disch := first | omega | (simp; omega)) [-List.reduceReplicate]
  have f11 : (0 : Int) ≤ (2 : Int) ∧ (2 : Int) < (↑(List.length (bys (List.take (8 : Nat) b))) : Int) := by simp (disch := omega) [-List.reduceReplicate]
  have f12 : (bys (List.take 8 b))[3]? = some (LV.int IntKind.u8 (atI b 3)) := by simp (disch := first | omega | (simp; omega)) [-List.reduceReplicate]
  have f13 : (0 : Int) ≤ (3 : Int) ∧ (3 : Int) < (↑(List.length (bys (List.take (8 : Nat) b))) : Int) := by simp (disch := omega) [-List.reduceReplicate]
  have f14 : (bys (List.take 8 b))[4]? = some (LV.int IntKind.u8 (atI b 4)) := by simp (disch := first | omega | (simp; omega)) [-List.reduceReplicate]
  have f15 : (0 : Int) ≤ (4 : Int) ∧ (4 : Int) < (↑(List.length (bys (List.take (8 : Nat) b))) : Int) := by simp (disch := omega) [-List.reduceReplicate]
  have f16 : (bys (List.take 8 b))[5]? = some (LV.int IntKind.u8 (atI b 5)) := by simp (disch := first | omega | (simp; omega)) [-List.reduceReplicate]
  have f17 : (0 : Int) ≤ (5 : Int) ∧ (5 : Int) < (↑(List.length (bys (List.take (8 : Nat) b))) : Int) := by simp (disch := omega) [-List.reduceReplicate]
  have f18 : (bys (List.take 8 b))[6]? = some (LV.int IntKind.u8 (atI b 6)) := by simp (disch := first | omega | (simp; omega)) [-List.reduceReplicate]
  have f19 : (0 : Int) ≤ (6 : Int) ∧ (6 : Int) < (↑(List.length (bys (List.take (8 : Nat) b))) : Int) := by simp (disch := omega) [-List.reduceReplicate]
  have f20 : (bys (List.take 8 b))[7]? = some (LV.int IntKind.u8 (atI b 7)) := by simp (disch := first | omega | (simp; omega)) [-List.reduceReplicate]
  have f21 : (0 : Int) ≤ (7 : Int) ∧ (7 : Int) < (↑(List.length (bys (List.take (8 : Nat) b))) : Int) := by simp (disch := omega) [-List.reduceReplicate]
  have f22 : LV.bool (decide (1152921504606846976 < bits BinOp.or IntKind.u64 (IntKind.wrap IntKind.u64 (bits BinOp.or IntKind.u64 (IntKind.wrap IntKind.u64 (bits BinOp.or IntKind.u64 (IntKind.wrap IntKind.u64 (bits BinOp.or IntKind.u64 (IntKind.wrap IntKind.u64 (bits BinOp.or IntKind.u64 (IntKind.wrap IntKind.u64 (bits BinOp.or IntKind.u64 (IntKind.wrap IntKind.u64 (bits BinOp.or IntKind.u64 (IntKind.wrap IntKind.u64 (bits BinOp.or IntKind.u64 0 (IntKind.wrap IntKind.u64 (atI b 0)) * 256)) (IntKind.wrap IntKind.u64 (atI b 1)) * 256)) (IntKind.wrap IntKind.u64 (atI b 2)) * 256)) (IntKind.wrap IntKind.u64 (atI b 3)) * 256)) (IntKind.wrap IntKind.u64 (atI b 4)) * 256)) (IntKind.wrap IntKind.u64 (atI b 5)) * 256)) (IntKind.wrap IntKind.u64 (atI b 6)) * 256)) (IntKind.wrap IntKind.u64 (atI b 7)))) = LV.bool true := by (simp [-List.reduceReplicate]; omega)
  exact drun_ok (fun h => And.intro (f1) <| And.intro (f2) <| And.intro (congrArg LV.bool f3) <| And.intro (f5) <| And.intro (f4) <| And.intro (f6) <| And.intro (f7) <| And.intro (f9) <| And.intro (f8) <| And.intro (f11) <| And.intro (f10) <| And.intro (f13) <| And.intro (f12) <| And.intro (f15) <| And.intro (f14) <| And.intro (f17) <| And.intro (f16) <| And.intro (f19) <| And.intro (f18) <| And.intro (f21) <| And.intro (f20) <| And.intro (f22) <| h) (.s (.a) (.s (.a) (.s (.s (.r [.a, .v (vOf f2) (.q)]) (.k (.l (.i (.s (.a) (.s (.b true (.a)) (.s (.k (.s (.r [.e (rOf f4)]) (.r [.a, .a, .a, .a, .z [.y 8 (vOf f6), .y 10 (vOf f7)] (.a)]))) (.r [])))) (.i (.s (.r []) (.s (.a) (.s (.k (.s (.r [.e (rOf f8)]) (.r []))) (.r [])))) (.i (.s (.r []) (.s (.a) (.s (.k (.s (.r [.e (rOf f10)]) (.r []))) (.r [])))) (.i (.s (.r []) (.s (.a) (.s (.k (.s (.r [.e (rOf f12)]) (.r []))) (.r [])))) (.i (.s (.r []) (.s (.a) (.s (.k (.s (.r [.e (rOf f14)]) (.r []))) (.r [])))) (.i (.s (.r []) (.s (.a) (.s (.k (.s (.r [.e (rOf f16)]) (.r []))) (.r [])))) (.i (.s (.r []) (.s (.a) (.s (.k (.s (.r [.e (rOf f18)]) (.r []))) (.r [])))) (.i (.s (.r []) (.s (.a) (.s (.k (.s (.r [.e (rOf f20)]) (.r []))) (.r [])))) (.i (.s (.r []) (.a)) (.a))))))))))))) (.s (.s (.r [.a, .v (vOf f22) (.a)]) (.c (.s (.r []) (.a)))) .a)))) [] .a (by kernel_rfl)
/-- A block's number. -/
def numH (b : List Int) : Int := if num8 b ≤ 1152921504606846976 then IntKind.i64.wrap (num8 b) else 0
theorem number_any (n : Nat) (b : List Int) (hb : 8 ≤ b.length) : lrun Try.prog C0 (lcall Try.prog C0 (n + 20)) (n + 20) 60 [.isl 1 (bys b)] ⟨0, []⟩ = some (.int .i64 (numH b), ⟨0, []⟩) := by
  unfold numH
  split
  · rename_i h; exact number_ok n b hb h
  · rename_i h; exact number_big n b hb (by omega)
/-- What a block says. -/
def readT (b : List Int) : Int := if numH b = numH (b.drop 56) ∧ atI b 8 ≤ 47 then numH b else 0
def readV (b : List Int) : List Int := if numH b = numH (b.drop 56) ∧ atI b 8 ≤ 47 then (b.drop 9).take (atI b 8).toNat else []
theorem read_any (n : Nat) (b : List Int) (hb : b.length = 64) (h8 : 0 ≤ atI b 8) (h9 : atI b 8 < 256) : lrun Try.prog C0 (lcall Try.prog C0 (n + 40)) (n + 40) 38 [.isl 1 (bys b)] ⟨0, []⟩ = some (.agg [.int .i64 (readT b), .isl 1 (bys (readV b))], ⟨0, []⟩) := by
  unfold readT readV
  by_cases he : numH b = numH (b.drop 56)
  · by_cases hs : atI b 8 ≤ 47
    · rw [if_pos ⟨he, hs⟩, if_pos ⟨he, hs⟩]
      have f1 := number_any (n + 19) b (by omega)
      have f2 : (0 : Int) ≤ (56 : Int) ∧ (56 : Int) ≤ Option.getD none (↑(List.length (bys b)) : Int) ∧ Option.getD none (↑(List.length (bys b)) : Int) ≤ (↑(List.length (bys b)) : Int) := by (simp [-List.reduceReplicate]; omega)
      have f3 : LV.isl 1 (List.drop 56 (List.take (Int.toNat (Option.getD none (↑(List.length (bys b)) : Int))) (bys b))) = LV.isl 1 (bys (List.drop 56 b)) := by simp
      have f4 := number_any (n + 19) (List.drop 56 b) (by (simp [-List.reduceReplicate]; omega))
      have f5 : (bys b)[8]? = some (LV.int IntKind.u8 (atI b 8)) := by simp (disch := omega) [-List.reduceReplicate]
      have f6 : (0 : Int) ≤ (8 : Int) ∧ (8 : Int) < (↑(List.length (bys b)) : Int) := by (simp [-List.reduceReplicate]; omega)
      have f7 : LV.int IntKind.i64 (IntKind.wrap IntKind.i64 (atI b 8)) = LV.int IntKind.i64 (atI b 8) := by simp (disch := omega) [-List.reduceReplicate]
      have f8 : (!decide (numH b = numH (List.drop 56 b))) = false := by (simp [-List.reduceReplicate]; omega)
      have f9 : LV.bool (if (!decide (numH b = numH (List.drop 56 b))) = true then true else decide (47 < atI b 8)) = LV.bool false := by (simp [-List.reduceReplicate]; omega)
      have f10 : 0 ≤ atI b 8 ∧ atI b 8 ≤ atI b 8 ∧ 1 * atI b 8 ≤ 281474976710656 := by omega
      have f11 : LObj.row 5 1 (List.replicate (Int.toNat (atI b 8)) (LV.int IntKind.u8 0)) = LObj.row 5 1 (bys (List.replicate (Int.toNat (atI b 8)) 0)) := by simp
      have f12 : (0 : Int) ≤ (9 : Int) ∧ (9 : Int) ≤ Option.getD none (↑(List.length (bys b)) : Int) ∧ Option.getD none (↑(List.length (bys b)) : Int) ≤ (↑(List.length (bys b)) : Int) := by (simp [-List.reduceReplicate]; omega)
      have f13 : LV.isl 1 (List.drop 9 (List.take (Int.toNat (Option.getD none (↑(List.length (bys b)) : Int))) (bys b))) = LV.isl 1 (bys (List.drop 9 b)) := by simp
      have f14 : okElems true 1 (sealL (bys (List.drop 9 b))) = true := by simp
      have f15 : 0 + Int.toNat (atI b 8) ≤ List.length (bys (List.replicate (Int.toNat (atI b 8)) 0)) := by simp
      have f16 : LV.int IntKind.i64 (↑(min (List.length (sealL (bys (List.drop 9 b)))) (Int.toNat (atI b 8))) : Int) = LV.int IntKind.i64 (max (atI b 8) 0) := by simp (disch := omega) [-List.reduceReplicate]
      have f17 : LObj.row 5 1 (lsplice (bys (List.replicate (Int.toNat (atI b 8)) 0)) 0 (List.take (min (List.length (sealL (bys (List.drop 9 b)))) (Int.toNat (atI b 8))) (sealL (bys (List.drop 9 b))))) = LObj.row 5 1 (bys (List.take (Int.toNat (atI b 8)) (List.drop 9 b))) := by simp (disch := first | omega | (simp; omega)) [-List.reduceReplicate]
      have f18 : LV.agg [LV.int IntKind.i64 (numH b), if 1 = 1 then if 1 = 1 ∧ 0 + Int.toNat (atI b 8) ≤ List.length (bys (List.take (Int.toNat (atI b 8)) (List.drop 9 b))) ∧ capLe (Int.toNat (atI b 8)) none = true then LV.isl 1 (List.take (Int.toNat (atI b 8)) (List.drop 0 (bys (List.take (Int.toNat (atI b 8)) (List.drop 9 b))))) else LV.any else LV.sl 1 1 0 (Int.toNat (atI b 8)) none] = LV.agg [LV.int IntKind.i64 (numH (List.drop 56 b)), LV.isl 1 (bys (List.take (Int.toNat (atI b 8)) (List.drop 9 b)))] := by (simp (disch := first | omega | (simp; omega)) [-List.reduceReplicate]; omega)
      have f19 : LObj.box 79 [LV.int IntKind.i64 (numH b), if 1 = 1 then if 1 = 1 ∧ 0 + Int.toNat (atI b 8) ≤ List.length (bys (List.take (Int.toNat (atI b 8)) (List.drop 9 b))) ∧ capLe (Int.toNat (atI b 8)) none = true then LV.isl 1 (List.take (Int.toNat (atI b 8)) (List.drop 0 (bys (List.take (Int.toNat (atI b 8)) (List.drop 9 b))))) else LV.any else LV.sl 1 1 0 (Int.toNat (atI b 8)) none] = LObj.box 79 [LV.int IntKind.i64 (numH (List.drop 56 b)), LV.isl 1 (bys (List.take (Int.toNat (atI b 8)) (List.drop 9 b)))] := by (simp (disch := first | omega | (simp; omega)) [-List.reduceReplicate]; omega)
      have f20 : (LV.agg [LV.int IntKind.i64 (numH (List.drop 56 b)), LV.isl 1 (bys (List.take (Int.toNat (atI b 8)) (List.drop 9 b)))], St.mk 0 []) = (LV.agg [LV.int IntKind.i64 (numH b), LV.isl 1 (bys (List.take (Int.toNat (atI b 8)) (List.drop 9 b)))], St.mk 0 []) := by (simp [-List.reduceReplicate]; omega)
      exact drun_ok (fun h => And.intro (f1) <| And.intro (f2) <| And.intro (f3) <| And.intro (f4) <| And.intro (f6) <| And.intro (f5) <| And.intro (f7) <| And.intro (congrArg some f8) <| And.intro (congrArg some f8) <| And.intro (f9) <| And.intro (f10) <| And.intro (congrArg some f11) <| And.intro (f12) <| And.intro (f13) <| And.intro (f14) <| And.intro (f15) <| And.intro (f16) <| And.intro (congrArg some f17) <| And.intro (f18) <| And.intro (congrArg some f19) <| f20) (.s (.a) (.s (.d [] [.a, .f (rOf f1), .a, .v (vOf f3) (.q)] [] [.f (rOf f4)]) (.s (.r [.a, .e (rOf f5), .a, .v (vOf f7) (.a)]) (.s (.s (.r [.a, .a, .a, .a, .g false (.a), .g false (.a), .v (vOf f9) (.a)]) (.a)) (.s (.r [.a, .x 1 (vOf f11) (.q)]) (.s (.r [.a, .a, .v (vOf f13) (.q), .x 1 (vOf f17) (.v (vOf f16) (.q))]) (.a))))))) [.y 0 (vOf f18), .x 0 (vOf f19)] .a (by kernel_rfl)
    · rw [if_neg (fun h => hs h.2), if_neg (fun h => hs h.2)]
      have hs' : 47 < atI b 8 := by omega
      have f1 := number_any (n + 19) b (by omega)
      have f2 : (0 : Int) ≤ (56 : Int) ∧ (56 : Int) ≤ Option.getD none (↑(List.length (bys b)) : Int) ∧ Option.getD none (↑(List.length (bys b)) : Int) ≤ (↑(List.length (bys b)) : Int) := by (simp [-List.reduceReplicate]; omega)
      have f3 : LV.isl 1 (List.drop 56 (List.take (Int.toNat (Option.getD none (↑(List.length (bys b)) : Int))) (bys b))) = LV.isl 1 (bys (List.drop 56 b)) := by simp
      have f4 := number_any (n + 19) (List.drop 56 b) (by (simp [-List.reduceReplicate]; omega))
      have f5 : (bys b)[8]? = some (LV.int IntKind.u8 (atI b 8)) := by simp (disch := omega) [-List.reduceReplicate]
      have f6 : (0 : Int) ≤ (8 : Int) ∧ (8 : Int) < (↑(List.length (bys b)) : Int) := by (simp [-List.reduceReplicate]; omega)
      have f7 : LV.int IntKind.i64 (IntKind.wrap IntKind.i64 (atI b 8)) = LV.int IntKind.i64 (atI b 8) := by simp (disch := omega) [-List.reduceReplicate]
      have f8 : (!decide (numH b = numH (List.drop 56 b))) = false := by (simp [-List.reduceReplicate]; omega)
      have f9 : LV.bool (if (!decide (numH b = numH (List.drop 56 b))) = true then true else decide (47 < atI b 8)) = LV.bool true := by (simp [-List.reduceReplicate]; omega)
      exact drun_ok (fun h => And.intro (f1) <| And.intro (f2) <| And.intro (f3) <| And.intro (f4) <| And.intro (f6) <| And.intro (f5) <| And.intro (f7) <| And.intro (congrArg some f8) <| And.intro (congrArg some f8) <| And.intro (f9) <| h) (.s (.a) (.s (.d [] [.a, .f (rOf f1), .a, .v (vOf f3) (.q)] [] [.f (rOf f4)]) (.s (.r [.a, .e (rOf f5), .a, .v (vOf f7) (.a)]) (.s (.s (.r [.a, .a, .a, .a, .g false (.a), .g false (.a), .v (vOf f9) (.a)]) (.a)) .a)))) [] .a (by kernel_rfl)
  · rw [if_neg (fun h => he h.1), if_neg (fun h => he h.1)]
    have f1 := number_any (n + 19) b (by omega)
    have f2 : (0 : Int) ≤ (56 : Int) ∧ (56 : Int) ≤ Option.getD none (↑(List.length (bys b)) : Int) ∧ Option.getD none (↑(List.length (bys b)) : Int) ≤ (↑(List.length (bys b)) : Int) := by (simp [-List.reduceReplicate]; omega)
    have f3 : LV.isl 1 (List.drop 56 (List.take (Int.toNat (Option.getD none (↑(List.length (bys b)) : Int))) (bys b))) = LV.isl 1 (bys (List.drop 56 b)) := by simp
    have f4 := number_any (n + 19) (List.drop 56 b) (by (simp [-List.reduceReplicate]; omega))
    have f5 : (bys b)[8]? = some (LV.int IntKind.u8 (atI b 8)) := by simp (disch := omega) [-List.reduceReplicate]
    have f6 : (0 : Int) ≤ (8 : Int) ∧ (8 : Int) < (↑(List.length (bys b)) : Int) := by (simp [-List.reduceReplicate]; omega)
    have f7 : LV.int IntKind.i64 (IntKind.wrap IntKind.i64 (atI b 8)) = LV.int IntKind.i64 (atI b 8) := by simp (disch := omega) [-List.reduceReplicate]
    have f8 : (!decide (numH b = numH (List.drop 56 b))) = true := by (simp [-List.reduceReplicate]; omega)
    have f9 : lpick (!decide (numH b = numH (List.drop 56 b))) (LV.bool true) LV.any = some (LV.bool true) := by (simp [-List.reduceReplicate]; omega)
    exact drun_ok (fun h => And.intro (f1) <| And.intro (f2) <| And.intro (f3) <| And.intro (f4) <| And.intro (f6) <| And.intro (f5) <| And.intro (f7) <| And.intro (congrArg some f8) <| And.intro (congrArg some f8) <| And.intro (x_map (st := (St.mk 1 [(0, LObj.box 79 [LV.int IntKind.i64 0, LV.nils])])) f9) <| h) (.s (.a) (.s (.d [] [.a, .f (rOf f1), .a, .v (vOf f3) (.q)] [] [.f (rOf f4)]) (.s (.r [.a, .e (rOf f5), .a, .v (vOf f7) (.a)]) (.s (.s (.r [.a, .a, .a, .a, .g true (.a), .g true (.a), .t (rOf (x_map (st := (St.mk 1 [(0, LObj.box 79 [LV.int IntKind.i64 0, LV.nils])])) f9))]) (.a)) .a)))) [] .a (by kernel_rfl)
end Go.Mac

namespace Go.Mac
open Go Go.Eng Go.Proofs
set_option linter.unusedVariables false
/-! two blocks -/
def mk (a : Int) (o0 o1 : Option (List Int)) : List (Int × List Int) := (match o0 with | some b => [(a, b)] | none => []) ++ (match o1 with | some b => [(a + 1, b)] | none => [])
theorem mget_0 (a : Int) (o0 o1) : mget (mk a o0 o1) a = o0 := by
  have h1 : ¬ (a + 1 = a) := by omega
  cases o0 <;> cases o1 <;> simp [mk, mget, h1]
theorem mget_1 (a : Int) (o0 o1) : mget (mk a o0 o1) (a + 1) = o1 := by
  cases o0 <;> cases o1 <;> simp [mk, mget] <;> omega
theorem kput_0 (a : Int) (o0 o1) (b : List Int) : kput (mapE (mk a o0 o1)) a (.isl 1 (bys b)) = mapE (mk a (some b) o1) := by
  have h1 : ¬ (a + 1 = a) := by omega
  have h2 : a < a + 1 := by omega
  cases o0 <;> cases o1 <;> simp [mk, mapE, kput, kget, kset, kins, h1, h2]
theorem kput_1 (a : Int) (o0 o1) (b : List Int) : kput (mapE (mk a o0 o1)) (a + 1) (.isl 1 (bys b)) = mapE (mk a o0 (some b)) := by
  have h1 : ¬ (a = a + 1) := by omega
  have h2 : ¬ (a + 1 < a) := by omega
  cases o0 <;> cases o1 <;> simp [mk, mapE, kput, kget, kset, kins, h1, h2]
theorem rd_0 (a : Int) (o0 o1) : rd (mk a o0 o1) [] a = blk (o0.getD []) := by
  simp only [rd, lastW, mget_0]; cases o0 <;> rfl
theorem rd_1 (a : Int) (o0 o1) : rd (mk a o0 o1) [] (a + 1) = blk (o1.getD []) := by
  simp only [rd, lastW, mget_1]; cases o1 <;> rfl
theorem blk_self (b : List Int) (h : b.length = 64) : blk b = b := by
  unfold blk; rw [h]; simp [spliceI, h]
/-- A block that may stand there. -/
structure OkB (b : List Int) : Prop where
  len : b.length = 64
  lo : ∀ i, i < 7 → atI b i = 0
  hi : ∀ i, 56 ≤ i → i < 63 → atI b i = 0
  b7 : 0 ≤ atI b 7 ∧ atI b 7 < 256
  b8 : 0 ≤ atI b 8 ∧ atI b 8 < 256
  b63 : 0 ≤ atI b 63 ∧ atI b 63 < 256
theorem atI_zero (n i : Nat) : atI (List.replicate n 0) i = 0 := by
  unfold atI
  rw [List.getD_eq_getElem?_getD, List.getElem?_replicate]
  split <;> rfl
theorem OkB.zero : OkB (List.replicate 64 0) := ⟨by simp, fun i _ => atI_zero _ _, fun i _ _ => atI_zero _ _, by rw [atI_zero]; omega, by rw [atI_zero]; omega, by rw [atI_zero]; omega⟩
theorem OkB.enc {t : Int} {v : List Int} (hv : v.length ≤ 47) (h0 : 0 ≤ t) (h1 : t < 256) : OkB (enc t v) ∧ atI (Go.Mac.enc t v) 63 = t := by
  have tl : ∀ i, atI (Go.Mac.enc t v) (56 + i) = atI [0,0,0,0,0,0,0,t] i := fun i => by rw [← atI_drop, enc_tail t v hv]
  have h63 : atI (Go.Mac.enc t v) 63 = t := tl 7
  have h7 : atI (Go.Mac.enc t v) 7 = t := by rw [enc_head t v 7 (by omega)]; rfl
  have h8 : atI (Go.Mac.enc t v) 8 = v.length := by rw [enc_head t v 8 (by omega)]; rfl
  refine ⟨⟨enc_length t v hv, fun i hi => ?_, fun i h56 h => ?_, by rw [h7]; omega, by rw [h8]; omega, by rw [h63]; omega⟩, h63⟩
  · rw [enc_head t v i (by omega)]
    have : i = 0 ∨ i = 1 ∨ i = 2 ∨ i = 3 ∨ i = 4 ∨ i = 5 ∨ i = 6 := by omega
    rcases this with rfl | rfl | rfl | rfl | rfl | rfl | rfl <;> rfl
  · obtain ⟨k, rfl⟩ : ∃ k, i = 56 + k := ⟨i - 56, by omega⟩
    rw [tl]
    have : k = 0 ∨ k = 1 ∨ k = 2 ∨ k = 3 ∨ k = 4 ∨ k = 5 ∨ k = 6 := by omega
    rcases this with rfl | rfl | rfl | rfl | rfl | rfl | rfl <;> rfl
/-- A block of which the first bytes are another's. -/
def torn (c b : List Int) (cut : Nat) : List Int := spliceI c 0 (b.take cut)
theorem atI_torn {c b : List Int} {cut : Nat} (hc : c.length = 64) (hb : b.length = 64) (h : cut < 64) (i : Nat) : atI (torn c b cut) i = if i < cut then atI b i else atI c i := by
  unfold torn spliceI atI
  have hl : (b.take cut).length = cut := by rw [List.length_take]; omega
  simp only [List.take_zero, List.nil_append, Nat.zero_add, hl, List.getD_eq_getElem?_getD]
  split
  · rename_i hi
    rw [List.getElem?_append_left (by rw [hl]; exact hi), List.getElem?_take, if_pos hi]
  · rename_i hi
    rw [List.getElem?_append_right (by rw [hl]; omega), hl, List.getElem?_drop]
    congr 2
    omega
theorem OkB.torn {c b : List Int} {cut : Nat} (hc : OkB c) (hb : OkB b) (h : cut < 64) : OkB (torn c b cut) ∧ atI (Go.Mac.torn c b cut) 63 = atI c 63 := by
  have q := atI_torn (cut := cut) hc.len hb.len h
  have e63 : atI (Go.Mac.torn c b cut) 63 = atI c 63 := by rw [q]; rw [if_neg (by omega)]
  refine ⟨⟨?_, fun i hi => ?_, fun i h1 h2 => ?_, ?_, ?_, by rw [e63]; exact hc.b63⟩, e63⟩
  · unfold Go.Mac.torn
    rw [spliceI_length, List.length_take, hb.len, hc.len]; omega
  · rw [q]; split
    · exact hb.lo i hi
    · exact hc.lo i hi
  · rw [q]; split
    · exact hb.hi i h1 h2
    · exact hc.hi i h1 h2
  · rw [q]; split
    · exact hb.b7
    · exact hc.b7
  · rw [q]; split
    · exact hb.b8
    · exact hc.b8
theorem OkB.readT {b : List Int} (h : OkB b) : readT b = 0 ∨ readT b = atI b 63 := by
  have h1 : num8 b = atI b 7 := num8_of b _ h.b7.1 h.b7.2 h.lo rfl
  have h2 : num8 (b.drop 56) = atI b 63 := num8_of _ _ h.b63.1 h.b63.2 (fun i hi => by rw [atI_drop]; exact h.hi _ (by omega) (by omega)) (by rw [atI_drop])
  have w1 := h.b7
  have w2 := h.b63
  have n2 : numH (b.drop 56) = atI b 63 := by
    unfold numH
    rw [h2, if_pos (by omega), wrapS_i64 _ (by omega) (by omega)]
  unfold Go.Mac.readT
  split
  · rename_i hc
    right
    rw [hc.1, n2]
  · left; rfl
def OkO (o : Option (List Int)) : Prop := ∀ b, o = some b → OkB b
def lastO : Option (List Int) → Int
  | some b => atI b 63
  | none => 0
theorem OkO.blk {o : Option (List Int)} (h : OkO o) : OkB (blk (o.getD [])) ∧ atI (Go.Mac.blk (o.getD [])) 63 = lastO o := by
  cases o with
  | none => exact ⟨OkB.zero, rfl⟩
  | some b =>
    have hb := h b rfl
    show OkB (Go.Mac.blk b) ∧ atI (Go.Mac.blk b) 63 = atI b 63
    rw [blk_self b hb.len]
    exact ⟨hb, rfl⟩
/-- What stands there of which the value is w, by t turns. -/
structure Cur (t : Int) (w : List Int) (o0 o1 : Option (List Int)) : Prop where
  t0 : 0 ≤ t
  t1 : t ≤ 200
  wl : w.length ≤ 47
  k0 : OkO o0
  k1 : OkO o1
  ev : lastO o0 % 2 = 0
  z : t = 0 → w = [] ∧ lastO o0 = 0 ∧ lastO o1 = 0
  e : 0 < t → t % 2 = 0 → o0 = some (enc t w) ∧ lastO o1 < t
  o : 0 < t → t % 2 = 1 → o1 = some (enc t w) ∧ lastO o0 < t
theorem Cur.none : Cur 0 [] none none := ⟨by omega, by omega, by simp, (fun _ h => nomatch h), (fun _ h => nomatch h), rfl, fun _ => ⟨rfl, rfl, rfl⟩, fun h => by omega, fun h => by omega⟩
/-- The block that is written next. -/
def nxt (t : Int) (b : List Int) (o0 o1 : Option (List Int)) : Option (List Int) × Option (List Int) := if (t + 1) % 2 = 0 then (some b, o1) else (o0, some b)
def old (t : Int) (o0 o1 : Option (List Int)) : Option (List Int) := if (t + 1) % 2 = 0 then o0 else o1
theorem Cur.kept {t : Int} {w v : List Int} {o0 o1} (h : Cur t w o0 o1) (ht : t < 200) (hv : v.length ≤ 47) : Cur (t + 1) v (nxt t (enc (t + 1) v) o0 o1).1 (nxt t (enc (t + 1) v) o0 o1).2 := by
  obtain ⟨hb, hl⟩ := OkB.enc (t := t + 1) (v := v) hv (by have := h.t0; omega) (by have := h.t1; omega)
  have hs : OkO (some (enc (t + 1) v)) := fun b e => (Option.some.inj e) ▸ hb
  have p0 := h.t0
  unfold nxt
  split
  · rename_i hp
    refine ⟨by omega, by omega, hv, hs, h.k1, by show atI _ 63 % 2 = 0; rw [hl]; exact hp, fun e => by omega, fun _ _ => ⟨rfl, ?_⟩, fun _ e => by omega⟩
    rcases Int.lt_or_le 0 t with h1 | h1
    · have e1 := (h.o h1 (by omega)).1
      have := (OkB.enc (t := t) (v := w) h.wl (by omega) (by omega)).2
      show lastO o1 < t + 1
      rw [e1]; show atI _ 63 < t + 1; rw [this]; omega
    · have := (h.z (by omega)).2.2
      show lastO o1 < t + 1
      omega
  · rename_i hp
    refine ⟨by omega, by omega, hv, h.k0, hs, h.ev, fun e => by omega, fun _ e => by omega, fun _ _ => ⟨rfl, ?_⟩⟩
    rcases Int.lt_or_le 0 t with h1 | h1
    · have e1 := (h.e h1 (by omega)).1
      have := (OkB.enc (t := t) (v := w) h.wl (by omega) (by omega)).2
      show lastO o0 < t + 1
      rw [e1]; show atI _ 63 < t + 1; rw [this]; omega
    · have := (h.z (by omega)).2.1
      show lastO o0 < t + 1
      omega
theorem Cur.tear {t : Int} {w v : List Int} {o0 o1} (h : Cur t w o0 o1) (ht : t < 200) (hv : v.length ≤ 47) {cut : Nat} (hc : cut < 64) :
    Cur t w (nxt t (torn (blk ((old t o0 o1).getD [])) (enc (t + 1) v) cut) o0 o1).1 (nxt t (torn (blk ((old t o0 o1).getD [])) (enc (t + 1) v) cut) o0 o1).2 := by
  obtain ⟨hb, hl⟩ := OkB.enc (t := t + 1) (v := v) hv (by have := h.t0; omega) (by have := h.t1; omega)
  have p0 := h.t0
  unfold nxt old
  split
  · rename_i hp
    obtain ⟨c1, c2⟩ := OkO.blk h.k0
    obtain ⟨d1, d2⟩ := OkB.torn (cut := cut) c1 hb hc
    have hL : lastO (some (torn (blk (o0.getD [])) (enc (t + 1) v) cut)) = lastO o0 := by show atI _ 63 = _; rw [d2, c2]
    exact ⟨h.t0, h.t1, h.wl, fun b e => (Option.some.inj e) ▸ d1, h.k1, by rw [hL]; exact h.ev, fun e => by rw [hL]; exact h.z e, fun h1 h2 => by omega, fun h1 h2 => by rw [hL]; exact h.o h1 h2⟩
  · rename_i hp
    obtain ⟨c1, c2⟩ := OkO.blk h.k1
    obtain ⟨d1, d2⟩ := OkB.torn (cut := cut) c1 hb hc
    have hL : lastO (some (torn (blk (o1.getD [])) (enc (t + 1) v) cut)) = lastO o1 := by show atI _ 63 = _; rw [d2, c2]
    exact ⟨h.t0, h.t1, h.wl, h.k0, fun b e => (Option.some.inj e) ▸ d1, h.ev, fun e => by rw [hL]; exact h.z e, fun h1 h2 => by rw [hL]; exact h.e h1 h2, fun h1 h2 => by omega⟩
end Go.Mac

namespace Go.Mac
open Go Go.Eng Go.Proofs
set_option linter.unusedVariables false
theorem okP_nil : okP [] := fun x hx => nomatch hx
/-- What a block says. -/
theorem read_blk {o : Option (List Int)} (h : OkO o) : ∃ v, ∀ k, lrun Try.prog C0 (lcall Try.prog C0 (k + 40)) (k + 40) 38 [.isl 1 (bys (blk (o.getD [])))] ⟨0, []⟩ = some (.agg [.int .i64 (readT (blk (o.getD []))), .isl 1 (bys v)], ⟨0, []⟩) :=
  ⟨_, fun k => read_any k _ h.blk.1.len h.blk.1.b8.1 h.blk.1.b8.2⟩
theorem readT_le {o : Option (List Int)} (h : OkO o) : readT (blk (o.getD [])) = 0 ∨ readT (blk (o.getD [])) = lastO o := by
  have := h.blk.1.readT
  rw [h.blk.2] at this
  exact this
theorem lastO_nonneg {o : Option (List Int)} (h : OkO o) : 0 ≤ lastO o := by
  have := h.blk.1.b63.1
  rw [h.blk.2] at this
  exact this
theorem read_cur {t : Int} {w : List Int} (h0 : 0 ≤ t) (h1 : t ≤ 200) (hw : w.length ≤ 47) {o : Option (List Int)} (ho : o = some (enc t w)) (k : Nat) : lrun Try.prog C0 (lcall Try.prog C0 (k + 40)) (k + 40) 38 [.isl 1 (bys (blk (o.getD [])))] ⟨0, []⟩ = some (.agg [.int .i64 t, .isl 1 (bys w)], ⟨0, []⟩) := by
  subst ho
  show lrun _ _ _ _ _ [.isl 1 (bys (blk (enc t w)))] _ = _
  rw [blk_self _ (enc_length t w hw)]
  exact read_enc k t w hw h0 (by omega)
theorem open_pos (rm a : Int) (h0 : 0 ≤ a) (h1 : a ≤ 1000) {t : Int} {w : List Int} {o0 o1} (h : Cur t w o0 o1) (ht : 0 < t) (k : Nat) :
    lrun Try.prog C0 (lcall Try.prog C0 (k + 80)) (k + 80) 12 [.ptr 0 0, .int .i64 a] ⟨1, [(0, dO rm (mk a o0 o1) [])]⟩ = some (.tup [.ptr 1 0, .nili], ⟨2, [(0, dO rm (mk a o0 o1) []), (1, .box 84 [.ptr 0 0, .int .i64 a, .int .i64 t, .isl 1 (bys w), .bool false])]⟩) := by
  have q0 := h.t0
  have q1 := h.t1
  rcases (show t % 2 = 0 ∨ t % 2 = 1 by omega) with hp | hp
  · obtain ⟨e, hl⟩ := h.e ht hp
    obtain ⟨v, r1⟩ := read_blk h.k1
    have r0 := fun k => read_cur q0 q1 h.wl e k
    have hT := readT_le h.k1
    have hn := lastO_nonneg h.k1
    simp only [← rd_0 a o0 o1] at r0
    rw [← rd_1 a o0 o1] at r1 hT
    exact sopen_even k rm _ [] (by simp) okP_nil a h0 h1 t _ w v r0 r1 hp (by omega) ht (by omega)
  · obtain ⟨e, hl⟩ := h.o ht hp
    obtain ⟨v, r0⟩ := read_blk h.k0
    have r1 := fun k => read_cur q0 q1 h.wl e k
    have hT := readT_le h.k0
    have hn := lastO_nonneg h.k0
    have hev := h.ev
    simp only [← rd_1 a o0 o1] at r1
    rw [← rd_0 a o0 o1] at r0 hT
    rcases (show readT (rd (mk a o0 o1) [] a) = 0 ∨ 0 < readT (rd (mk a o0 o1) [] a) by omega) with hz | hz
    · rw [hz] at r0
      exact sopen_odd k rm _ [] (by simp) okP_nil a h0 h1 t v w r0 r1 hp ht
    · exact sopen_two k rm _ [] (by simp) okP_nil a h0 h1 _ t v w r0 r1 (by omega) hp hz (by omega)
theorem open_zero (rm a : Int) (h0 : 0 ≤ a) (h1 : a ≤ 1000) {w : List Int} {o0 o1} (h : Cur 0 w o0 o1) (k : Nat) :
    lrun Try.prog C0 (lcall Try.prog C0 (k + 80)) (k + 80) 12 [.ptr 0 0, .int .i64 a] ⟨1, [(0, dO rm (mk a o0 o1) [])]⟩ = some (.tup [.ptr 1 0, .nili], ⟨2, [(0, dO rm (mk a o0 o1) []), (1, .box 84 [.ptr 0 0, .int .i64 a, .int .i64 0, .own 5 1 [], .bool false])]⟩) := by
  obtain ⟨hw, z0, z1⟩ := h.z rfl
  obtain ⟨v0, r0⟩ := read_blk h.k0
  obtain ⟨v1, r1⟩ := read_blk h.k1
  have e0 : readT (blk (o0.getD [])) = 0 := by have := readT_le h.k0; omega
  have e1 : readT (blk (o1.getD [])) = 0 := by have := readT_le h.k1; omega
  rw [e0, ← rd_0 a o0 o1] at r0
  rw [e1, ← rd_1 a o0 o1] at r1
  exact sopen_none k rm _ [] (by simp) okP_nil a h0 h1 v0 v1 r0 r1
end Go.Mac

namespace Go.Mac
open Go Go.Eng Go.Proofs
set_option linter.unusedVariables false
theorem write_mk (rm a : Int) (h0 : 0 ≤ a) (h1 : a ≤ 1000) (hr : 2 ≤ rm) (o0 o1 : Option (List Int)) (t : Int) (ht : 0 ≤ t) (k : Nat) (b : List Int) (hb : b.length = 64) :
    lrun Try.prog C0 (lcall Try.prog C0 (k + 20)) (k + 20) 20 [.ptr 0 0, .int .i64 (a + (t + 1) % 2), .sl 1 1 0 64 none] ⟨2, [(0, dO rm (mk a o0 o1) []), (1, .row 5 1 (bys b))]⟩ =
      some (.nili, ⟨2, [(0, dO rm (mk a o0 o1) ([] ++ [(a + (t + 1) % 2, some b)])), (1, .row 5 1 (bys b))]⟩) := by
  have e1 : ¬ (a + 1 = a) := by omega
  have e2 : ¬ (a + 1 < a) := by omega
  have e3 : a < a + 1 := by omega
  have e4 : ¬ (a = a + 1) := by omega
  rcases (show (t + 1) % 2 = 0 ∨ (t + 1) % 2 = 1 by omega) with hp | hp
  · rw [hp, Int.add_zero]
    cases o0 with
    | none => exact writeS_new k a b rm _ [] h0 (by omega) hb (by simp) okP_nil (by cases o1 <;> simp [needs, mk, mapK, pnds, pendN, kinc, kget, kput, kins, e1, e4]) (by cases o1 <;> simp [needs, mk, mapK, pnds, pendN, kinc, kget, kput, kins] <;> omega)
    | some c => exact writeS_old k a b rm _ [] h0 (by omega) hb (by simp) okP_nil 1 (by cases o1 <;> simp [needs, mk, mapK, pnds, pendN, kinc, kget, kput, kins, e1, e2, e4]) (by omega)
  · rw [hp]
    cases o1 with
    | none => exact writeS_new k (a + 1) b rm _ [] (by omega) (by omega) hb (by simp) okP_nil (by cases o0 <;> simp [needs, mk, mapK, pnds, pendN, kinc, kget, kput, kins, e1, e4]) (by cases o0 <;> simp [needs, mk, mapK, pnds, pendN, kinc, kget, kput, kins] <;> omega)
    | some c => exact writeS_old k (a + 1) b rm _ [] (by omega) (by omega) hb (by simp) okP_nil 1 (by cases o0 <;> simp [needs, mk, mapK, pnds, pendN, kinc, kget, kput, kins, e1, e2, e4]) (by omega)
theorem apply_mk (a t : Int) (ht : 0 ≤ t) (b : List Int) (o0 o1 : Option (List Int)) : applyP [(a + (t + 1) % 2, some b)] (mapE (mk a o0 o1)) = mapE (mk a (nxt t b o0 o1).1 (nxt t b o0 o1).2) := by
  show kput _ _ _ = _
  unfold nxt
  rcases (show (t + 1) % 2 = 0 ∨ (t + 1) % 2 = 1 by omega) with hp | hp
  · rw [hp, Int.add_zero, kput_0, if_pos rfl]
  · rw [hp, kput_1, if_neg (by omega)]
end Go.Mac

namespace Go.Mac
open Go Go.Eng Go.Proofs
set_option linter.unusedVariables false
set_option maxHeartbeats 1000000
set_option maxRecDepth 100000
theorem enc_ne {t : Int} {v : List Int} (hv : v.length ≤ 47) : enc t v ≠ [] := by
  intro h
  have := enc_length t v hv
  rw [h] at this
  simp at this
theorem kget_mk (a t : Int) (ht : 0 ≤ t) (o0 o1 : Option (List Int)) : kget (mapE (mk a o0 o1)) (a + (t + 1) % 2) = (old t o0 o1).map fun b => LV.isl 1 (bys b) := by
  rw [kget_mapE]
  unfold old
  rcases (show (t + 1) % 2 = 0 ∨ (t + 1) % 2 = 1 by omega) with hp | hp
  · rw [hp, Int.add_zero, mget_0, if_pos rfl]
  · rw [hp, mget_1, if_neg (by omega)]
/-- A crash with one write that is not synced. -/
theorem crash_mk (rm a t : Int) {w v : List Int} {o0 o1} (h : Cur t w o0 o1) (ht : t < 200) (hv : v.length ≤ 47) (ks : List Int) (cut : Int) :
    ∃ t' w' o0' o1', Cur t' w' o0' o1' ∧ ((t = t' ∧ w = w') ∨ (t + 1 = t' ∧ v = w')) ∧
      ∀ k, lrun Try.prog C0 (lcall Try.prog C0 (k + 60)) (k + 60) 15 [.ptr 0 0, .isl 1 (ints ks), .int .i64 cut] ⟨1, [(0, dO rm (mk a o0 o1) [(a + (t + 1) % 2, some (enc (t + 1) v))])]⟩ = some (.tup [], ⟨1, [(0, dO rm (mk a o0' o1') [])]⟩) := by
  have hne := enc_ne (t := t + 1) hv
  have hl := enc_length (t + 1) v hv
  have p0 := h.t0
  cases ks with
  | nil => exact ⟨t, w, o0, o1, h, .inl ⟨rfl, rfl⟩, fun k => crash_lost0 k rm _ _ _ cut⟩
  | cons q ks =>
    have hk : 0 < (q :: ks).length := by simp
    by_cases hq : atI (q :: ks) 0 = 0
    · exact ⟨t, w, o0, o1, h, .inl ⟨rfl, rfl⟩, fun k => crash_lost1 k rm _ _ _ _ hk hq cut⟩
    · by_cases hc : cut < 0 ∨ 64 ≤ cut
      · exact ⟨t + 1, v, _, _, h.kept ht hv, .inr ⟨rfl, rfl⟩, fun k => crash_kept k rm _ _ _ _ hne _ hk hq cut hc (apply_mk a t p0 _ o0 o1)⟩
      · have hA := apply_mk a t p0 (torn (blk ((old t o0 o1).getD [])) (enc (t + 1) v) cut.toNat) o0 o1
        have hg := kget_mk a t p0 o0 o1
        refine ⟨t, w, _, _, h.tear ht hv (cut := cut.toNat) (by omega), .inl ⟨rfl, rfl⟩, ?_⟩
        cases ho : old t o0 o1 with
        | none =>
          rw [ho] at hg hA
          exact fun k => crash_torn0 k rm _ _ _ _ hl _ hk hq cut (by omega) (by omega) hg hA
        | some c =>
          rw [ho] at hg hA
          have hcl : c.length = 64 := by
            unfold old at ho
            split at ho
            · exact (h.k0 c ho).len
            · exact (h.k1 c ho).len
          exact fun k => crash_torn k rm _ _ _ _ hl _ hk hq cut (by omega) (by omega) c hcl hg hA
abbrev stQ (t : Int) (vc : LV) (o0 o1 : Option (List Int)) : St := ⟨2, [(0, dO 4 (mk 0 o0 o1) []), (1, sQ t vc false)]⟩
abbrev stP (t : Int) (v : List Int) (o0 o1 : Option (List Int)) : St := ⟨2, [(0, dO 4 (mk 0 o0 o1) [(0 + (t + 1) % 2, some (enc (t + 1) v))]), (1, sQ (t + 1) (vO v) true)]⟩
/-- What the law's state may be, and the turn. -/
inductive Keep : Int → St → Prop
  | qO {t w o0 o1} : Cur t w o0 o1 → Keep t (stQ t (vO w) o0 o1)
  | qI {t w o0 o1} : Cur t w o0 o1 → 0 < t → Keep t (stQ t (vI w) o0 o1)
  | p {t w o0 o1} (v : List Int) : Cur t w o0 o1 → v.length ≤ 47 → Keep (t + 1) (stP t v o0 o1)
/-- What opens. -/
theorem open_cur {t : Int} {w : List Int} {o0 o1} (h : Cur t w o0 o1) :
    (t = 0 ∧ w = [] ∧ ∀ k, lrun Try.prog C0 (lcall Try.prog C0 (k + 80)) (k + 80) 12 [.ptr 0 0, .int .i64 0] ⟨1, [(0, dO 4 (mk 0 o0 o1) [])]⟩ = some (.tup [.ptr 1 0, .nili], ⟨2, [(0, dO 4 (mk 0 o0 o1) []), (1, .box 84 [.ptr 0 0, .int .i64 0, .int .i64 0, vO [], .bool false])]⟩)) ∨
    (0 < t ∧ ∀ k, lrun Try.prog C0 (lcall Try.prog C0 (k + 80)) (k + 80) 12 [.ptr 0 0, .int .i64 0] ⟨1, [(0, dO 4 (mk 0 o0 o1) [])]⟩ = some (.tup [.ptr 1 0, .nili], ⟨2, [(0, dO 4 (mk 0 o0 o1) []), (1, .box 84 [.ptr 0 0, .int .i64 0, .int .i64 t, vI w, .bool false])]⟩)) := by
  have := h.t0
  rcases Int.lt_or_le 0 t with h0 | h0
  · exact .inr ⟨h0, fun k => open_pos 4 0 (by omega) (by omega) h h0 k⟩
  · obtain rfl : t = 0 := by omega
    exact .inl ⟨rfl, (h.z rfl).1, fun k => open_zero 4 0 (by omega) (by omega) h k⟩
theorem put_fO (t : Int) {w v : List Int} {o0 o1} (h : Cur t w o0 o1) (ht : t < 200) (hv : v.length ≤ 47) : ∀ k, lrun Try.prog C0 (lcall Try.prog C0 (k + 60)) (k + 60) 13 [.ptr 0 0, .isl 1 (bys v)] ⟨2, [(0, sO 0 t (vO w) false), (1, dO 4 (mk 0 o0 o1) [])]⟩ = some (.nili, ⟨2, [(0, sO 0 (t + 1) (vO v) true), (1, dO 4 (mk 0 o0 o1) [(0 + (t + 1) % 2, some (enc (t + 1) v))])]⟩) :=
  fun k => sput_wO k 0 t w 4 _ [] v hv h.t0 (by omega) (by omega) (by omega) (fun k b hb => write_mk 4 0 (by omega) (by omega) (by omega) o0 o1 t h.t0 k b hb)
theorem put_fI (t : Int) {w v : List Int} {o0 o1} (h : Cur t w o0 o1) (ht : t < 200) (hv : v.length ≤ 47) : ∀ k, lrun Try.prog C0 (lcall Try.prog C0 (k + 60)) (k + 60) 13 [.ptr 0 0, .isl 1 (bys v)] ⟨2, [(0, sO 0 t (vI w) false), (1, dO 4 (mk 0 o0 o1) [])]⟩ = some (.nili, ⟨2, [(0, sO 0 (t + 1) (vO v) true), (1, dO 4 (mk 0 o0 o1) [(0 + (t + 1) % 2, some (enc (t + 1) v))])]⟩) :=
  fun k => sput_wI k 0 t w 4 _ [] v hv h.t0 (by omega) (by omega) (by omega) (fun k b hb => write_mk 4 0 (by omega) (by omega) (by omega) o0 o1 t h.t0 k b hb)
theorem sync_q (F : List Int → LV) (hF : F = vO ∨ F = vI) (t : Int) (w : List Int) (m : List (Int × List Int)) : ∀ k, lrun Try.prog C0 (lcall Try.prog C0 (k + 61)) (k + 61) 14 [.ptr 0 0] ⟨2, [(0, sO 0 t (F w) false), (1, dO 4 m [])]⟩ = some (.tup [], ⟨2, [(0, sO 0 t (F w) false), (1, dO 4 m [])]⟩) := by
  rcases hF with rfl | rfl
  · exact fun k => ssync_okO (k + 1) 0 t w false 4 m m [] (by simp) (by simp) (fun x hx => nomatch hx) rfl
  · exact fun k => ssync_okI (k + 1) 0 t w false 4 m m [] (by simp) (by simp) (fun x hx => nomatch hx) rfl
theorem sync_p (t : Int) (h0 : 0 ≤ t) {v : List Int} (hv : v.length ≤ 47) (o0 o1 : Option (List Int)) : ∀ k, lrun Try.prog C0 (lcall Try.prog C0 (k + 61)) (k + 61) 14 [.ptr 0 0] ⟨2, [(0, sO 0 (t + 1) (vO v) true), (1, dO 4 (mk 0 o0 o1) [(0 + (t + 1) % 2, some (enc (t + 1) v))])]⟩ =
    some (.tup [], ⟨2, [(0, sO 0 (t + 1) (vO v) false), (1, dO 4 (mk 0 (nxt t (enc (t + 1) v) o0 o1).1 (nxt t (enc (t + 1) v) o0 o1).2) [])]⟩) := by
  have hb : ∀ x ∈ [(0 + (t + 1) % 2, some (enc (t + 1) v))], ∀ b, x.2 = some b → b ≠ [] := by
    intro x hx b hb
    simp only [List.mem_singleton] at hx
    subst hx
    rw [← Option.some.inj hb]
    exact enc_ne hv
  exact fun k => ssync_okO (k + 1) 0 (t + 1) v true 4 _ _ _ (by simp) (by simp) hb (apply_mk 0 t h0 _ o0 o1)
/-- One act. -/
theorem keep_step (n fu : Nat) (l : List Act4) (hl : l.length ≤ 60) (v ks : List Int) (c : Int) (i : Int) (h0 : 0 ≤ i) (hi : i < (l.length : Int)) (x : Act4) (hx : l[i.toNat]? = some x) (hL : x.b.length ≤ 100) {T : Int} {st : St} (hk : Keep T st) (hT : T ≤ i) :
    ∃ T' st', Keep T' st' ∧ T' ≤ i + 1 ∧ ∀ r, loopAt Try.prog C0 (n + 100) 3 0 0 fu (keE l v ks c (i + 1)) st' = some r → loopAt Try.prog C0 (n + 100) 3 0 0 (fu + 1) (keE l v ks c i) st = some r := by
  have ho := opsL_at hx
  by_cases k0 : x.kind = 0
  · by_cases hb : x.b.length ≤ 47
    · cases hk with
      | qO h => exact ⟨_, _, .p x.b h hb, by omega, fun r hr => ke_putO n fu l hl v ks c i h0 hi x ho _ _ _ [] _ _ k0 (put_fO _ h (by omega) hb) r hr⟩
      | qI h ht => exact ⟨_, _, .p x.b h hb, by omega, fun r hr => ke_putI n fu l hl v ks c i h0 hi x ho _ _ _ [] _ _ k0 (put_fI _ h (by omega) hb) r hr⟩
      | p v' h hv => exact ⟨_, _, .p v' h hv, by omega, fun r hr => ke_noOp n fu l hl v ks c i h0 hi x ho _ _ _ [] _ _ k0 _ _ _ (fun k => sput_looseO (k + 20) 0 _ v' true 4 _ [_] x.b hb rfl) r hr⟩
    · cases hk with
      | qO h => exact ⟨_, _, .qO h, by omega, fun r hr => ke_noO n fu l hl v ks c i h0 hi x ho _ _ _ [] 0 [] k0 _ _ _ (fun k => sput_longO (k + 20) 0 _ _ false 4 _ [] x.b (by omega) (by omega)) r hr⟩
      | qI h ht => exact ⟨_, _, .qI h ht, by omega, fun r hr => ke_noI n fu l hl v ks c i h0 hi x ho _ _ _ [] 0 [] k0 _ _ _ (fun k => sput_longI (k + 20) 0 _ _ false 4 _ [] x.b (by omega) (by omega)) r hr⟩
      | p v' h hv => exact ⟨_, _, .p v' h hv, by omega, fun r hr => ke_noOp n fu l hl v ks c i h0 hi x ho _ _ _ [] _ _ k0 _ _ _ (fun k => sput_longO (k + 20) 0 _ v' true 4 _ [_] x.b (by omega) (by omega)) r hr⟩
  · by_cases k1 : x.kind = 1
    · cases hk with
      | qO h => exact ⟨_, _, .qO h, by omega, fun r hr => ke_syncO n fu l hl v ks c i h0 hi x ho _ _ _ _ 0 [] k1 (sync_q vO (.inl rfl) _ _ _) r hr⟩
      | qI h ht => exact ⟨_, _, .qI h ht, by omega, fun r hr => ke_syncI n fu l hl v ks c i h0 hi x ho _ _ _ _ 0 [] k1 (sync_q vI (.inr rfl) _ _ _) r hr⟩
      | p v' h hv => exact ⟨_, _, .qO (h.kept (by omega) hv), by omega, fun r hr => ke_syncOp n fu l hl v ks c i h0 hi x ho _ _ _ _ _ _ k1 (sync_p _ h.t0 hv _ _) r hr⟩
    · by_cases k3 : x.kind = 3
      · cases hk with
        | qO h =>
          rcases open_cur h with ⟨rfl, rfl, O⟩ | ⟨hp, O⟩
          · exact ⟨_, _, .qO h, by omega, fun r hr => ke_crashOO n fu l hl v ks c i h0 hi x ho _ _ _ _ 0 [] k3 _ _ (fun k => crash_nil k 4 _ _ _) O r hr⟩
          · exact ⟨_, _, .qI h hp, by omega, fun r hr => ke_crashOI n fu l hl v ks c i h0 hi x ho _ _ _ _ 0 [] k3 _ _ (fun k => crash_nil k 4 _ _ _) O r hr⟩
        | qI h ht =>
          rcases open_cur h with ⟨rfl, rfl, O⟩ | ⟨hp, O⟩
          · omega
          · exact ⟨_, _, .qI h hp, by omega, fun r hr => ke_crashII n fu l hl v ks c i h0 hi x ho _ _ _ _ 0 [] k3 _ _ (fun k => crash_nil k 4 _ _ _) O r hr⟩
        | p v' h hv =>
          obtain ⟨t', w', o0', o1', h', hor, Z⟩ := crash_mk 4 0 _ h (by omega) hv x.keep x.cut
          have hle : t' ≤ i := by rcases hor with ⟨e, _⟩ | ⟨e, _⟩ <;> omega
          rcases open_cur h' with ⟨rfl, rfl, O⟩ | ⟨hp, O⟩
          · exact ⟨_, _, .qO h', by omega, fun r hr => ke_crashOpO n fu l hl v ks c i h0 hi x ho _ _ _ _ _ _ k3 _ _ Z O r hr⟩
          · exact ⟨_, _, .qI h' hp, by omega, fun r hr => ke_crashOpI n fu l hl v ks c i h0 hi x ho _ _ _ _ _ _ k3 _ _ Z O r hr⟩
      · cases hk with
        | qO h => exact ⟨_, _, .qO h, by omega, fun r hr => ke_idO n fu l hl v ks c i h0 hi x ho _ _ _ [] 0 [] k0 k1 k3 r hr⟩
        | qI h ht => exact ⟨_, _, .qI h ht, by omega, fun r hr => ke_idI n fu l hl v ks c i h0 hi x ho _ _ _ [] 0 [] k0 k1 k3 r hr⟩
        | p v' h hv => exact ⟨_, _, .p v' h hv, by omega, fun r hr => ke_idOp n fu l hl v ks c i h0 hi x ho _ _ _ [] _ _ k0 k1 k3 r hr⟩
/-- All acts. -/
theorem keep_loop (n : Nat) (l : List Act4) (hl : l.length ≤ 60) (hL : l.all Light = true) (v ks : List Int) (c : Int) : ∀ (q : List Act4) (fu : Nat) (i : Int) (T : Int) (st : St), 0 ≤ i → i ≤ l.length → l.drop i.toNat = q → q.length < fu → Keep T st → T ≤ i →
    ∃ T' st' i', Keep T' st' ∧ T' ≤ 60 ∧ loopAt Try.prog C0 (n + 100) 3 0 0 fu (keE l v ks c i) st = some (.exit 0, keX l v ks c i', st')
  | [], fu, i, T, st, h0, hle, hq, hf, hk, hT => by
    obtain ⟨fu, rfl⟩ : ∃ k, fu = k + 1 := ⟨fu - 1, by omega⟩
    have hi := List.drop_eq_nil_iff.1 hq
    refine ⟨T, st, i, hk, by omega, ?_⟩
    cases hk with
    | qO h => exact ke_endO n fu l hl v ks c i (by omega) _ _ _ [] 0 []
    | qI h ht => exact ke_endI n fu l hl v ks c i (by omega) _ _ _ [] 0 []
    | p v' h hv => exact ke_endOp n fu l hl v ks c i (by omega) _ _ _ [] _ _
  | x :: q, fu, i, T, st, h0, hle, hq, hf, hk, hT => by
    obtain ⟨fu, rfl⟩ : ∃ k, fu = k + 1 := ⟨fu - 1, by simp at hf; omega⟩
    have hx : l[i.toNat]? = some x := by
      have := congrArg (fun z => z[0]?) hq
      simpa using this
    have hi : i.toNat < l.length := (List.getElem?_eq_some_iff.1 hx).1
    have hq2 : l.drop (i + 1).toNat = q := by
      have e : (i + 1).toNat = i.toNat + 1 := by omega
      rw [e, ← List.drop_drop, hq]; rfl
    have hxl : x.b.length ≤ 100 := by
      have := List.all_eq_true.1 hL x (List.mem_of_getElem? hx)
      simp only [Light, Bool.and_eq_true, decide_eq_true_eq] at this
      exact this.1
    obtain ⟨T1, st1, hk1, hT1, hs⟩ := keep_step n fu l hl v ks c i h0 (by omega) x hx hxl hk hT
    obtain ⟨T2, st2, i2, hk2, hT2, h2⟩ := keep_loop n l hl hL v ks c q fu (i + 1) T1 st1 (by omega) (by omega) hq2 (by simp at hf; omega) hk1 hT1
    exact ⟨T2, st2, i2, hk2, hT2, hs _ h2⟩
theorem keep_ok (n : Nat) (l : List Act4) (v ks : List Int) (c : Int)
    (hw : lrun Try.prog C0 (lcall Try.prog C0 (n + 99)) (n + 99) 10 [] ⟨0, []⟩ = some (.bool true, ⟨0, []⟩)) :
    lrun Try.prog C0 (lcall Try.prog C0 (n + 100)) (n + 100) 3 [.isl 4 (opsL l), .isl 1 (bys v), .isl 1 (ints ks), .int .i64 c] ⟨0, []⟩ = some (.bool true, ⟨0, []⟩) := by
  by_cases h : lightB l = false ∨ 47 < v.length ∨ 20 < ks.length
  · exact ke_big n l v ks c h hw
  · have hlt : lightB l = true := by
      cases hb : lightB l with
      | true => rfl
      | false => exact absurd (.inl hb) h
    have hv : v.length ≤ 47 := by omega
    have hk : ks.length ≤ 20 := by omega
    have hlt' := hlt
    simp only [lightB, Bool.and_eq_true, decide_eq_true_eq] at hlt'
    obtain ⟨hl, hA⟩ := hlt'
    have O0 : ∀ k, lrun Try.prog C0 (lcall Try.prog C0 (k + 80)) (k + 80) 12 [.ptr 0 0, .int .i64 0] ⟨1, [(0, dO 4 [] [])]⟩ = some (.tup [.ptr 1 0, .nili], ⟨2, [(0, dO 4 [] []), (1, .box 84 [.ptr 0 0, .int .i64 0, .int .i64 0, vO [], .bool false])]⟩) := fun k => open_zero 4 0 (by omega) (by omega) Cur.none k
    obtain ⟨T, st, i, hK, hT, L⟩ := keep_loop n l hl hA v ks c l (n + 100) 0 0 (stQ 0 (vO []) none none) (by omega) (by omega) rfl (by omega) (.qO Cur.none) (by omega)
    cases hK with
    | @qO t w o0 o1 h =>
      obtain ⟨t', w', o0', o1', h', hor, Z⟩ := crash_mk 4 0 _ h (by omega) hv ks c
      have S := put_fO _ h (by omega) hv
      have Y := sync_q vO (.inl rfl) T w (mk 0 o0 o1)
      rcases hor with ⟨e1, e2⟩ | ⟨e1, e2⟩ <;> subst e1 <;> subst e2
      · rcases open_cur h' with ⟨rfl, rfl, O⟩ | ⟨hp, O⟩
        · exact ke_tailOOsame n l hl v ks c i 0 [] _ _ 0 [] _ _ _ hlt hv hk (by omega) (by omega) (by simp) O0 hw L Y S Z O
        · exact ke_tailOIsame n l hl v ks c i _ _ _ _ 0 [] _ _ _ hlt hv hk (by omega) (by omega) h.wl O0 hw L Y S Z O
      · have := h.t0
        rcases open_cur h' with ⟨e, _, O⟩ | ⟨hp, O⟩
        · omega
        · exact ke_tailOInext n l hl _ ks c i _ _ _ _ 0 [] _ _ _ hlt hv hk (by omega) (by omega) h.wl O0 hw L Y S Z O
    | @qI t w o0 o1 h ht =>
      obtain ⟨t', w', o0', o1', h', hor, Z⟩ := crash_mk 4 0 _ h (by omega) hv ks c
      have S := put_fI _ h (by omega) hv
      have Y := sync_q vI (.inr rfl) T w (mk 0 o0 o1)
      rcases hor with ⟨e1, e2⟩ | ⟨e1, e2⟩ <;> subst e1 <;> subst e2
      · rcases open_cur h' with ⟨rfl, rfl, O⟩ | ⟨hp, O⟩
        · omega
        · exact ke_tailIIsame n l hl v ks c i _ _ _ _ 0 [] _ _ _ hlt hv hk (by omega) (by omega) h.wl O0 hw L Y S Z O
      · rcases open_cur h' with ⟨e, _, O⟩ | ⟨hp, O⟩
        · omega
        · exact ke_tailIInext n l hl _ ks c i _ _ _ _ 0 [] _ _ _ hlt hv hk (by omega) (by omega) h.wl O0 hw L Y S Z O
    | @p t w o0 o1 v' h0 hv' =>
      have h := h0.kept (by omega) hv'
      have q0 := h0.t0
      obtain ⟨t', w', o0', o1', h', hor, Z⟩ := crash_mk 4 0 _ h (by omega) hv ks c
      have S := put_fO _ h (by omega) hv
      have Y := sync_p t q0 hv' o0 o1
      rcases hor with ⟨e1, e2⟩ | ⟨e1, e2⟩ <;> subst e1 <;> subst e2
      · rcases open_cur h' with ⟨e, _, O⟩ | ⟨hp, O⟩
        · omega
        · exact ke_tailOpIsame n l hl v ks c i _ _ _ _ _ _ _ _ _ hlt hv hk (by omega) (by omega) hv' O0 hw L Y S Z O
      · rcases open_cur h' with ⟨e, _, O⟩ | ⟨hp, O⟩
        · omega
        · exact ke_tailOpInext n l hl _ ks c i _ _ _ _ _ _ _ _ _ hlt hv hk (by omega) (by omega) hv' O0 hw L Y S Z O
end Go.Mac

namespace Go.Mac
open Go Go.Eng Go.Proofs
set_option maxRecDepth 100000
theorem works_slot : lrun Try.prog C0 (lcall Try.prog C0 199) 199 10 [] ⟨0, []⟩ = some (.bool true, ⟨0, []⟩) := by kernel_rfl
theorem refs_bys : ∀ b : List Int, refsL (bys b) = []
  | [] => rfl
  | _ :: b => by simp only [bys_cons, refsL, refs, refs_bys b]; rfl
end Go.Mac

namespace Go.Mac
open Go Go.Eng Go.Proofs
set_option maxHeartbeats 0
set_option maxRecDepth 100000
set_option linter.unusedSimpArgs false
def C1 : Cfg := ⟨fun _ => none, fun f => f == 40⟩
theorem right_ok1 (n : Nat) (at_ : Int) (h : 0 ≤ at_) (h2 : at_ ≤ 1073741824) : lrun Try.prog C1 (lcall Try.prog C1 (n + 9)) (n + 9) 44 [.int .i64 at_] ⟨0, []⟩ = some (.nili, ⟨0, []⟩) := by
  have f1 : decide (at_ < 0) = false := by (simp [-List.reduceReplicate]; omega)
  have f2 : LV.bool (if decide (at_ < 0) = true then true else decide (1073741824 < at_)) = LV.bool false := by (simp [-List.reduceReplicate]; omega)
  exact drun_ok (fun h => And.intro (congrArg some f1) <| And.intro (congrArg some f1) <| And.intro (f2) <| h) (.s (.a) (.s (.s (.r [.a, .a, .a, .g false (.a), .g false (.a), .v (vOf f2) (.a)]) (.a)) (.a))) [] .a (by kernel_rfl)
theorem right_no1 (n : Nat) (at_ : Int) (h : at_ < 0 ∨ 1073741824 < at_) : lrun Try.prog C1 (lcall Try.prog C1 (n + 9)) (n + 9) 44 [.int .i64 at_] ⟨0, []⟩ = some (.ifc 115 (.agg [.str [98,108,111,99,107], .int .i64 at_, .ifc 71 (.int .i64 2)]), ⟨0, []⟩) := by
  by_cases h1 : at_ < 0
  · have f1 : decide (at_ < 0) = true := by (simp [-List.reduceReplicate]; omega)
    have f2 : lpick (decide (at_ < 0)) (LV.bool true) LV.any = some (LV.bool true) := by (simp [-List.reduceReplicate]; omega)
    exact drun_ok (fun h => And.intro (congrArg some f1) <| And.intro (congrArg some f1) <| And.intro (x_map (st := (St.mk 0 [])) f2) <| h) (.s (.a) (.s (.s (.r [.a, .a, .a, .g true (.a), .g true (.a), .t (rOf (x_map (st := (St.mk 0 [])) f2))]) (.a)) .a)) [] .a (by kernel_rfl)
  · have : 1073741824 < at_ := by omega
    have f1 : decide (at_ < 0) = false := by (simp [-List.reduceReplicate]; omega)
    have f2 : LV.bool (if decide (at_ < 0) = true then true else decide (1073741824 < at_)) = LV.bool true := by (simp [-List.reduceReplicate]; omega)
    exact drun_ok (fun h => And.intro (congrArg some f1) <| And.intro (congrArg some f1) <| And.intro (f2) <| h) (.s (.a) (.s (.s (.r [.a, .a, .a, .g false (.a), .g false (.a), .v (vOf f2) (.a)]) (.a)) .a)) [] .a (by kernel_rfl)
theorem whole_ok1 (n : Nat) (b : List Int) : lrun Try.prog C1 (lcall Try.prog C1 (n + 9)) (n + 9) 40 [.isl 1 (bys b)] ⟨0, []⟩ = some (.sl 1 0 0 64 none, ⟨1, [(0, .row 5 1 (bys (blk b)))]⟩) := by
  have f1 : okElems true 1 (sealL (bys b)) = true := by simp
  have f2 : 64 ≤ 64 := by omega
  have f3 : LV.int IntKind.i64 (↑(min (List.length (sealL (bys b))) 64) : Int) = LV.int IntKind.i64 (↑(min (List.length b) 64) : Int) := by simp
  have f4 : LObj.row 5 1 (lsplice (List.replicate 64 (LV.int IntKind.u8 0)) 0 (List.take (min (List.length (sealL (bys b))) 64) (sealL (bys b)))) = LObj.row 5 1 (bys (spliceI (List.replicate 64 0) 0 (List.take (min (List.length b) 64) b))) := by simp
  exact drun_ok (fun h => And.intro (f1) <| And.intro (f2) <| And.intro (f3) <| And.intro (congrArg some f4) <| h) (.s (.a) (.s (.a) (.s (.r [.a, .a, .x 0 (vOf f4) (.v (vOf f3) (.q))]) (.a)))) [] .a (by kernel_rfl)
theorem whole_nil1 (n : Nat) : lrun Try.prog C1 (lcall Try.prog C1 (n + 9)) (n + 9) 40 [.nils] ⟨0, []⟩ = some (.sl 1 0 0 64 none, ⟨1, [(0, .row 5 1 (bys (blk [])))]⟩) := by
  exact drun_ok (fun h => h) (.a) [] .a (by kernel_rfl)
end Go.Mac

namespace Go.Proofs.Ytddbfjgodbfaoaa.T
open Go Go.Eng Go.Mac Go.Proofs.Ytddbfjgodbfaoaa.Ty
set_option linter.unusedSimpArgs false
set_option linter.unusedVariables false

theorem extC1 : ExtSound Try.prog C1 := fun f F h => by simp [C1] at h
theorem mixed : Try.prog.follows .mixedOrders = true := by kernel_rfl
def R1 : Inst := ⟨id, id, fun _ => false⟩
theorem Meets.wkpost {P : Program} {f : FuncId} {as_ : List AV} {s : Hp} {K : AV → Hp → Prop} (h : Meets P f as_ s (fun r t => ∃ r' t', Wk r r' ∧ HpWk t t' ∧ K r' t')) : Meets P f as_ s K :=
  Meets.sw (h.mono fun r t ⟨r', t', h1, h2, h3⟩ => ⟨r', t', SW.wk (fun _ => h1) h2, h3⟩)
theorem meets_run {n : Nat} {f : FuncId} {as_ : List LV} {v : LV} {st : St} (h : lrun Try.prog C1 (lcall Try.prog C1 n) n f as_ ⟨0, []⟩ = some (v, st)) (hr : refsL as_ = []) {K : AV → Hp → Prop}
    (hk : ∀ R t, SRel Try.prog R st t → (∀ b ∈ refs v, b < st.next) → K (inst R true v) t) : Meets Try.prog f (instL R1 true as_) [] K := by
  have := lrun_sound extC1 mixed (lcall_sound extC1 mixed n) h R1 [] (SRel.empty _ _) (by rw [hr]; simp)
  refine Meets.wkpost (this.mono ?_)
  rintro r t ⟨R', s', _, _, g3, g4, g5, g6⟩
  exact ⟨_, s', g3, g5, hk R' s' g6 g4⟩
theorem srel_nil {P : Program} {R : Inst} {t : Hp} (h : SRel P R ⟨0, []⟩ t) : t = [] := by
  have := h.ents
  cases this; rfl
theorem right_av (at_ : Int) (h : 0 ≤ at_ ∧ at_ ≤ 1073741824) (s : Hp) (K : AV → Hp → Prop) (hk : K (.v .nilIface) s) : Meets Try.prog 44 [.v (.int .i64 at_)] s K := by
  refine Meets.alone ?_
  have := meets_run (K := fun r t => K r s) (right_ok1 0 at_ h.1 h.2) (by simp [refsL, refs]) (fun R t ht _ => by simpa [inst] using hk)
  simpa [instL, inst] using this
theorem right_av_no (at_ : Int) (h : at_ < 0 ∨ 1073741824 < at_) (s : Hp) (K : AV → Hp → Prop) (hk : K (.ifc 115 (.agg [.v (.string ⟨#[98,108,111,99,107]⟩), .v (.int .i64 at_), .v (.iface 71 (.int .i64 2))])) s) : Meets Try.prog 44 [.v (.int .i64 at_)] s K := by
  refine Meets.alone ?_
  have := meets_run (K := fun r t => K r s) (right_no1 0 at_ h) (by simp [refsL, refs]) (fun R t ht _ => by simpa [inst, instL, mkIfc] using hk)
  simpa [instL, inst] using this
/-- What a block's bytes are, whole. -/
def cel (b : List Int) : List AV := b.map fun n => .v (.int .u8 n)
theorem cel_bys (R : Inst) (l : Bool) (b : List Int) : instL R l (bys b) = cel b := by
  rw [instL_eq]; unfold bys cel
  rw [List.map_map]
  apply List.map_congr_left
  intro x _
  cases l <;> simp [inst]
theorem cel_flat (b : List Int) : (cel b).flatMap cellsOf = cel b := by
  unfold cel
  induction b with
  | nil => rfl
  | cons x b ih => rw [List.map_cons, List.flatMap_cons, ih]; rfl
theorem whole_end {b : List Int} {R : Inst} {t : Hp} (ht : SRel Try.prog R ⟨1, [(0, .row 5 1 (bys (blk b)))]⟩ t) :
    ∃ q cap, 64 ≤ cap ∧ cap ≤ maxLen ∧ inst R true (.sl 1 0 0 64 none) = .v (.slice (some ⟨q, 0, none⟩) 64 cap) ∧ t = [(q, .cells 5 (cel (blk b)) (cap * 1))] := by
  have he := ht.ents
  cases he with
  | cons ho hrest =>
    cases hrest
    generalize hx : bys (blk b) = xs at ho
    have hxl : xs.length = 64 := by rw [← hx]; simp
    cases ho with
    | rowNil _ _ hz => simp at hxl
    | row _ _ _ hz ok =>
      subst hx
      refine ⟨R.ρ 0, R.κ 0, ?_, ok.cap, ?_, ?_⟩
      · have := ok.le; rw [hxl] at this; exact this
      · simp [inst, slInst, hz]
      · rw [cel_bys, cel_flat]; rfl
theorem whole_av (b : List Int) (s : Hp) (K : AV → Hp → Prop) (hk : ∀ q cap, q ∉ s.keys → 64 ≤ cap → cap ≤ maxLen → K (.v (.slice (some ⟨q, 0, none⟩) 64 cap)) ((q, .cells 5 (cel (blk b)) (cap * 1)) :: s)) :
    Meets Try.prog 40 [.sl 1 (cel b)] s K := by
  have h0 : Meets Try.prog 40 [.sl 1 (cel b)] [] (fun r t => ∃ q cap, 64 ≤ cap ∧ cap ≤ maxLen ∧ r = .v (.slice (some ⟨q, 0, none⟩) 64 cap) ∧ t = [(q, .cells 5 (cel (blk b)) (cap * 1))]) := by
    have := meets_run (K := fun r t => ∃ q cap, 64 ≤ cap ∧ cap ≤ maxLen ∧ r = .v (.slice (some ⟨q, 0, none⟩) 64 cap) ∧ t = [(q, .cells 5 (cel (blk b)) (cap * 1))]) (whole_ok1 0 b) (by simp [refsL, refs]) (fun R t ht _ => by
      obtain ⟨q, cap, h1, h2, h3, h4⟩ := whole_end ht
      exact ⟨q, cap, h1, h2, h3, h4⟩)
    simpa [instL, inst, cel_bys] using this
  refine Meets.kn (Meets.frame (s := []) (t := s) (h0.mono ?_))
  rintro r t ⟨q, cap, h1, h2, rfl, rfl⟩
  intro hn
  exact hk q cap (List.nodup_cons.1 hn).1 h1 h2
theorem whole_av_nil (s : Hp) (K : AV → Hp → Prop) (hk : ∀ q cap, q ∉ s.keys → 64 ≤ cap → cap ≤ maxLen → K (.v (.slice (some ⟨q, 0, none⟩) 64 cap)) ((q, .cells 5 (cel (blk [])) (cap * 1)) :: s)) :
    Meets Try.prog 40 [.v (.slice none 0 0)] s K := by
  have h0 : Meets Try.prog 40 [.v (.slice none 0 0)] [] (fun r t => ∃ q cap, 64 ≤ cap ∧ cap ≤ maxLen ∧ r = .v (.slice (some ⟨q, 0, none⟩) 64 cap) ∧ t = [(q, .cells 5 (cel (blk [])) (cap * 1))]) := by
    have := meets_run (K := fun r t => ∃ q cap, 64 ≤ cap ∧ cap ≤ maxLen ∧ r = .v (.slice (some ⟨q, 0, none⟩) 64 cap) ∧ t = [(q, .cells 5 (cel (blk [])) (cap * 1))]) (whole_nil1 0) (by simp [refsL, refs]) (fun R t ht _ => by
      obtain ⟨q, cap, h1, h2, h3, h4⟩ := whole_end ht
      exact ⟨q, cap, h1, h2, h3, h4⟩)
    simpa [instL, inst] using this
  refine Meets.kn (Meets.frame (s := []) (t := s) (h0.mono ?_))
  rintro r t ⟨q, cap, h1, h2, rfl, rfl⟩
  intro hn
  exact hk q cap (List.nodup_cons.1 hn).1 h1 h2
def optC : Option (List Int) → AV
  | none => .v (.slice none 0 0)
  | some b => .sl 1 (cel b)
theorem optC_one (w : Option (List Int)) : (optC w).one = true := by cases w <;> rfl
theorem optC_cells (w : Option (List Int)) : cellsOf (optC w) = [optC w] := cells_one (optC_one w)
theorem whole_any (o : Option (List Int)) (s : Hp) (K : AV → Hp → Prop) (hk : ∀ q cap, q ∉ s.keys → 64 ≤ cap → cap ≤ maxLen → K (.v (.slice (some ⟨q, 0, none⟩) 64 cap)) ((q, .cells 5 (cel (blk (o.getD []))) (cap * 1)) :: s)) :
    Meets Try.prog 40 [optC o] s K := by
  cases o with
  | none => exact whole_av_nil s K hk
  | some b => exact whole_av b s K hk
def pC (w : Int × Option (List Int)) : AV := .agg [.v (.int .i64 w.1), optC w.2]
/-- The last write of a block. -/
def lastC (at_ : Int) : List (Int × Option (List Int)) → Option (Option (List Int))
  | [] => none
  | (a, b) :: l => match lastC at_ l with
    | some x => some x
    | none => if a = at_ then some b else none
theorem lastC_take {at_ : Int} : ∀ {ps : List (Int × Option (List Int))} {i : Nat}, (∀ j (h : j < ps.length), i < j → ps[j].1 ≠ at_) → (h : i < ps.length) → ps[i].1 = at_ → lastC at_ ps = some ps[i].2
  | [], i, _, h, _ => by simp at h
  | (a, b) :: l, 0, hn, h, he => by
    have hl : ∀ l : List (Int × Option (List Int)), (∀ x ∈ l, x.1 ≠ at_) → lastC at_ l = none := by
      intro l
      induction l with
      | nil => intro _; rfl
      | cons x l ih =>
        intro hx
        unfold lastC
        rw [ih (fun y hy => hx y (List.mem_cons_of_mem _ hy)), if_neg (hx x List.mem_cons_self)]
    have : lastC at_ l = none := hl l (fun x hx => by
      obtain ⟨j, hj, rfl⟩ := List.mem_iff_getElem.1 hx
      exact hn (j + 1) (by simpa using hj) (by omega))
    have he' : a = at_ := he
    unfold lastC
    rw [this, if_pos he']
    rfl
  | (a, b) :: l, i + 1, hn, h, he => by
    have := lastC_take (ps := l) (i := i) (fun j hj hij => by have := hn (j + 1) (by simpa using hj) (by omega); simpa using this) (by simpa using h) (by simpa using he)
    unfold lastC
    rw [this]
    rfl
theorem lastC_none {at_ : Int} : ∀ {l : List (Int × Option (List Int))}, (∀ x ∈ l, x.1 ≠ at_) → lastC at_ l = none
  | [], _ => rfl
  | x :: l, hx => by
    unfold lastC
    rw [lastC_none (fun y hy => hx y (List.mem_cons_of_mem _ hy)), if_neg (hx x List.mem_cons_self)]
/-- What is read. -/
def readC (at_ : Int) (es : List (Int × List Int)) (ps : List (Int × Option (List Int))) : List Int :=
  match lastC at_ ps with
  | some o => blk (o.getD [])
  | none => blk ((Pl.pget es at_).getD [])
def mC (es : List (Int × List Int)) : List (Int × AV) := Pl.gmap (fun b => .sl 1 (cel b)) es
end Go.Proofs.Ytddbfjgodbfaoaa.T

namespace Go.Proofs.Ytddbfjgodbfaoaa.T
open Go Go.Eng Go.Proofs.Ytddbfjgodbfaoaa.Ty
set_option linter.unusedSimpArgs false
set_option linter.unusedVariables false
theorem back_av (xs : List AV) (s : Hp) (K : AV → Hp → Prop) (hk : ∀ p, p ∉ s.keys → K (.v (.func (.func 62) #[] #[.pointer (some ⟨p, 0, none⟩)])) ((p, .cells 75 [.sl 2 xs] 1) :: s)) :
    Meets Try.prog 46 [.sl 2 xs] s K := by
  have h0 : Meets Try.prog 46 [.sl 2 xs] [] (fun r t => ∃ p, r = .v (.func (.func 62) #[] #[.pointer (some ⟨p, 0, none⟩)]) ∧ t = [(p, .cells 75 [.sl 2 xs] 1)]) := by
    obtain ⟨K', hK'⟩ : ∃ K' : AV → Hp → Prop, K' = (fun r t => ∃ p, r = .v (.func (.func 62) #[] #[.pointer (some ⟨p, 0, none⟩)]) ∧ t = [(p, .cells 75 [.sl 2 xs] 1)]) := ⟨_, rfl⟩
    rw [← hK']
    refine Meets.body Try.func46 rfl rfl (by simp [Try.ntmps46]) ?_
    repeat' (first | refine AW.seq ?_ | ((first | refine AW.reg (by rfl) ?_ | refine AW.skip ?_ | refine AW.ret ?_ | refine AW.exit ?_); simp only [undef, aops, aop, acall, ev, ofValue, put_some, put_none, AThen, ABlock, APost, ares, oneOrTup, upd_get, entry_get, guardOf, Nat.reduceEqDiff, ↓reduceIte, List.getD_cons_zero, List.getD_cons_succ, List.getD_nil, abuild, abuildSlice, parts, zcells, Value.cells, afill, cells_agg, cells_v, cells_sl, cells_rp, cells_ifc, cells_mp, mkIfc, splice, List.map_cons, List.map_nil, List.length_cons, List.length_nil, List.take_succ_cons, List.take_zero, List.drop_succ_cons, List.drop_zero, List.take_nil, List.drop_nil, List.nil_append, List.cons_append, List.append_nil, List.getElem?_cons_zero, List.getElem?_cons_succ, List.all_cons, List.all_nil, one_v, one_sl, one_rp, one_ifc, one_mp, one_agg, Value.oneCell', Bool.and_self, Bool.and_true, Bool.true_and, true_and, and_true, Nat.reduceAdd, Nat.reduceLeDiff, Nat.reduceMul, Nat.zero_add, Nat.add_zero, Nat.le_refl, Nat.zero_le, aload, astore, abox, aalloc, abin, aint, ashift, apick, anil, anils, isNilC, aun, aconvInt, arange, anext, aentry, aassertAny, aassert2, anilm, aifeq, ainvoke, ne_eq, not_true_eq_false, not_false_eq_true, afieldAddr, afield, apart, rpart, aindexAddr, aindex, alen, aextract, aassert, amakeFunc, amakeSlice, amakeMap, alookup, amapUpdate, adelete, acopy, acopySrc, srcOf, aappend, bcells_eq, bcellsR, mcells_one, mcells_zero, List.length_replicate, List.size_toArray, Int.cast_ofNat_Int, Int.one_mul, Int.reduceToNat, Int.reduceLT, Int.reduceLE, Int.reduceMul, Int.reduceAdd, Int.reduceSub, Int.reduceNeg, Int.reduceEq, Nat.reduceLT, Nat.reduceSub, flats, amax, amin, aslice, abounds, optInt, Option.map_some, Option.map_none, Option.getD_some, Option.getD_none, Option.bind_some, Option.bind_none, Option.isSome_some, Option.isSome_none, false_imp_iff, hp_get_nil, hp_get_cons, hp_del_nil, hp_del_cons, hp_notin_nil, hp_notin_cons, hp_set_out, hp_get_out, hp_del_out, and_imp, hp_set_nil, hp_set_cons, List.map_toArray, Array.toList_map, reduceCtorEq, false_and, and_false, if_true, if_false, Bool.false_eq_true, Bool.not_true, Bool.not_false, decide_true, decide_false, implies_true, forall_const, List.length_map, qops, qop, exists_eq_left', exists_eq_left, and_assoc, exists_and_left, Int.toNat_natCast, Int.natCast_nonneg, Nat.mul_one, agg_75, Try.results46]) | refine AW.block ?_ | with_reducible refine AW.condT rfl ?_ | with_reducible refine AW.condF rfl ?_)
    intro p
    repeat' (first | refine AW.seq ?_ | ((first | refine AW.reg (by rfl) ?_ | refine AW.skip ?_ | refine AW.ret ?_ | refine AW.exit ?_); simp only [undef, aops, aop, acall, ev, ofValue, put_some, put_none, AThen, ABlock, APost, ares, oneOrTup, upd_get, entry_get, guardOf, Nat.reduceEqDiff, ↓reduceIte, List.getD_cons_zero, List.getD_cons_succ, List.getD_nil, abuild, abuildSlice, parts, zcells, Value.cells, afill, cells_agg, cells_v, cells_sl, cells_rp, cells_ifc, cells_mp, mkIfc, splice, List.map_cons, List.map_nil, List.length_cons, List.length_nil, List.take_succ_cons, List.take_zero, List.drop_succ_cons, List.drop_zero, List.take_nil, List.drop_nil, List.nil_append, List.cons_append, List.append_nil, List.getElem?_cons_zero, List.getElem?_cons_succ, List.all_cons, List.all_nil, one_v, one_sl, one_rp, one_ifc, one_mp, one_agg, Value.oneCell', Bool.and_self, Bool.and_true, Bool.true_and, true_and, and_true, Nat.reduceAdd, Nat.reduceLeDiff, Nat.reduceMul, Nat.zero_add, Nat.add_zero, Nat.le_refl, Nat.zero_le, aload, astore, abox, aalloc, abin, aint, ashift, apick, anil, anils, isNilC, aun, aconvInt, arange, anext, aentry, aassertAny, aassert2, anilm, aifeq, ainvoke, ne_eq, not_true_eq_false, not_false_eq_true, afieldAddr, afield, apart, rpart, aindexAddr, aindex, alen, aextract, aassert, amakeFunc, amakeSlice, amakeMap, alookup, amapUpdate, adelete, acopy, acopySrc, srcOf, aappend, bcells_eq, bcellsR, mcells_one, mcells_zero, List.length_replicate, List.size_toArray, Int.cast_ofNat_Int, Int.one_mul, Int.reduceToNat, Int.reduceLT, Int.reduceLE, Int.reduceMul, Int.reduceAdd, Int.reduceSub, Int.reduceNeg, Int.reduceEq, Nat.reduceLT, Nat.reduceSub, flats, amax, amin, aslice, abounds, optInt, Option.map_some, Option.map_none, Option.getD_some, Option.getD_none, Option.bind_some, Option.bind_none, Option.isSome_some, Option.isSome_none, false_imp_iff, hp_get_nil, hp_get_cons, hp_del_nil, hp_del_cons, hp_notin_nil, hp_notin_cons, hp_set_out, hp_get_out, hp_del_out, and_imp, hp_set_nil, hp_set_cons, List.map_toArray, Array.toList_map, reduceCtorEq, false_and, and_false, if_true, if_false, Bool.false_eq_true, Bool.not_true, Bool.not_false, decide_true, decide_false, implies_true, forall_const, List.length_map, qops, qop, exists_eq_left', exists_eq_left, and_assoc, exists_and_left, Int.toNat_natCast, Int.natCast_nonneg, Nat.mul_one, agg_75, Try.results46]) | refine AW.block ?_ | with_reducible refine AW.condT rfl ?_ | with_reducible refine AW.condF rfl ?_)
    rw [hK']
    exact ⟨p, rfl, rfl⟩
  refine Meets.kn (Meets.frame (s := []) (t := s) (h0.mono ?_))
  rintro r t ⟨p, rfl, rfl⟩
  intro hn
  exact hk p (List.nodup_cons.1 hn).1
theorem read_av (rm at_ : Int) (h : 0 ≤ at_ ∧ at_ ≤ 1073741824) (es : List (Int × List Int)) (ps : List (Int × Option (List Int))) (hlen : ps.length ≤ 1048576) :
    Meets Try.prog 21 [.rp (.agg [.v (.int .i64 rm), .mp .i64 (mC es), .sl 2 (ps.map pC)]), .v (.int .i64 at_)] [] (fun r t => ∃ q cap t', 64 ≤ cap ∧ cap ≤ maxLen ∧ r = .tup [.v (.slice (some ⟨q, 0, none⟩) 64 cap), .v .nilIface] ∧ t' = [(q, .cells 5 (cel (readC at_ es ps)) (cap * 1))] ∧ t'.Sublist t) := by
  obtain ⟨K', hK'⟩ : ∃ K' : AV → Hp → Prop, K' = (fun r t => ∃ q cap t', 64 ≤ cap ∧ cap ≤ maxLen ∧ r = .tup [.v (.slice (some ⟨q, 0, none⟩) 64 cap), .v .nilIface] ∧ t' = [(q, .cells 5 (cel (readC at_ es ps)) (cap * 1))] ∧ t'.Sublist t) := ⟨_, rfl⟩
  rw [← hK']
  refine Meets.body Try.func21 rfl rfl (by simp [Try.ntmps21]) ?_
  repeat' (first | refine AW.seq ?_ | ((first | refine AW.reg (by rfl) ?_ | refine AW.skip ?_ | refine AW.ret ?_ | refine AW.exit ?_); simp only [undef, aops, aop, acall, ev, ofValue, put_some, put_none, AThen, ABlock, APost, ares, oneOrTup, upd_get, entry_get, guardOf, Nat.reduceEqDiff, ↓reduceIte, List.getD_cons_zero, List.getD_cons_succ, List.getD_nil, abuild, abuildSlice, parts, zcells, Value.cells, afill, cells_agg, cells_v, cells_sl, cells_rp, cells_ifc, cells_mp, mkIfc, splice, List.map_cons, List.map_nil, List.length_cons, List.length_nil, List.take_succ_cons, List.take_zero, List.drop_succ_cons, List.drop_zero, List.take_nil, List.drop_nil, List.nil_append, List.cons_append, List.append_nil, List.getElem?_cons_zero, List.getElem?_cons_succ, List.all_cons, List.all_nil, one_v, one_sl, one_rp, one_ifc, one_mp, one_agg, Value.oneCell', Bool.and_self, Bool.and_true, Bool.true_and, true_and, and_true, Nat.reduceAdd, Nat.reduceLeDiff, Nat.reduceMul, Nat.zero_add, Nat.add_zero, Nat.le_refl, Nat.zero_le, aload, astore, abox, aalloc, abin, aint, ashift, apick, anil, anils, isNilC, aun, aconvInt, arange, anext, aentry, aassertAny, aassert2, anilm, aifeq, ainvoke, ne_eq, not_true_eq_false, not_false_eq_true, afieldAddr, afield, apart, rpart, aindexAddr, aindex, alen, aextract, aassert, amakeFunc, amakeSlice, amakeMap, alookup, amapUpdate, adelete, acopy, acopySrc, srcOf, aappend, bcells_eq, bcellsR, mcells_one, mcells_zero, List.length_replicate, List.size_toArray, Int.cast_ofNat_Int, Int.one_mul, Int.reduceToNat, Int.reduceLT, Int.reduceLE, Int.reduceMul, Int.reduceAdd, Int.reduceSub, Int.reduceNeg, Int.reduceEq, Nat.reduceLT, Nat.reduceSub, flats, amax, amin, aslice, abounds, optInt, Option.map_some, Option.map_none, Option.getD_some, Option.getD_none, Option.bind_some, Option.bind_none, Option.isSome_some, Option.isSome_none, false_imp_iff, hp_get_nil, hp_get_cons, hp_del_nil, hp_del_cons, hp_notin_nil, hp_notin_cons, hp_set_out, hp_get_out, hp_del_out, and_imp, hp_set_nil, hp_set_cons, List.map_toArray, Array.toList_map, reduceCtorEq, false_and, and_false, if_true, if_false, Bool.false_eq_true, Bool.not_true, Bool.not_false, decide_true, decide_false, implies_true, forall_const, List.length_map, qops, qop, exists_eq_left', exists_eq_left, and_assoc, exists_and_left, Int.toNat_natCast, Int.natCast_nonneg, Nat.mul_one, agg_3, zero_23, zero_29, iface_29, issl_29, isptr_29, cmp_71, agg_23, agg_29, field_77_2, agg_75, zero_88, agg_88, field_88_0, iface_3, issl_3, isptr_3, field_88_1, field_77_1, agg_74, map_74, Try.results21, rpart]) | refine AW.block ?_ | with_reducible refine AW.condT rfl ?_ | with_reducible refine AW.condF rfl ?_)
  intro b3 b4 h43 b5 h54 h53
  repeat' (first | refine AW.seq ?_ | ((first | refine AW.reg (by rfl) ?_ | refine AW.skip ?_ | refine AW.ret ?_ | refine AW.exit ?_); simp only [undef, aops, aop, acall, ev, ofValue, put_some, put_none, AThen, ABlock, APost, ares, oneOrTup, upd_get, entry_get, guardOf, Nat.reduceEqDiff, ↓reduceIte, List.getD_cons_zero, List.getD_cons_succ, List.getD_nil, abuild, abuildSlice, parts, zcells, Value.cells, afill, cells_agg, cells_v, cells_sl, cells_rp, cells_ifc, cells_mp, mkIfc, splice, List.map_cons, List.map_nil, List.length_cons, List.length_nil, List.take_succ_cons, List.take_zero, List.drop_succ_cons, List.drop_zero, List.take_nil, List.drop_nil, List.nil_append, List.cons_append, List.append_nil, List.getElem?_cons_zero, List.getElem?_cons_succ, List.all_cons, List.all_nil, one_v, one_sl, one_rp, one_ifc, one_mp, one_agg, Value.oneCell', Bool.and_self, Bool.and_true, Bool.true_and, true_and, and_true, Nat.reduceAdd, Nat.reduceLeDiff, Nat.reduceMul, Nat.zero_add, Nat.add_zero, Nat.le_refl, Nat.zero_le, aload, astore, abox, aalloc, abin, aint, ashift, apick, anil, anils, isNilC, aun, aconvInt, arange, anext, aentry, aassertAny, aassert2, anilm, aifeq, ainvoke, ne_eq, not_true_eq_false, not_false_eq_true, afieldAddr, afield, apart, rpart, aindexAddr, aindex, alen, aextract, aassert, amakeFunc, amakeSlice, amakeMap, alookup, amapUpdate, adelete, acopy, acopySrc, srcOf, aappend, bcells_eq, bcellsR, mcells_one, mcells_zero, List.length_replicate, List.size_toArray, Int.cast_ofNat_Int, Int.one_mul, Int.reduceToNat, Int.reduceLT, Int.reduceLE, Int.reduceMul, Int.reduceAdd, Int.reduceSub, Int.reduceNeg, Int.reduceEq, Nat.reduceLT, Nat.reduceSub, flats, amax, amin, aslice, abounds, optInt, Option.map_some, Option.map_none, Option.getD_some, Option.getD_none, Option.bind_some, Option.bind_none, Option.isSome_some, Option.isSome_none, false_imp_iff, hp_get_nil, hp_get_cons, hp_del_nil, hp_del_cons, hp_notin_nil, hp_notin_cons, hp_set_out, hp_get_out, hp_del_out, and_imp, hp_set_nil, hp_set_cons, List.map_toArray, Array.toList_map, reduceCtorEq, false_and, and_false, if_true, if_false, Bool.false_eq_true, Bool.not_true, Bool.not_false, decide_true, decide_false, implies_true, forall_const, List.length_map, qops, qop, exists_eq_left', exists_eq_left, and_assoc, exists_and_left, Int.toNat_natCast, Int.natCast_nonneg, Nat.mul_one, agg_3, zero_23, zero_29, iface_29, issl_29, isptr_29, cmp_71, agg_23, agg_29, field_77_2, agg_75, zero_88, agg_88, field_88_0, iface_3, issl_3, isptr_3, field_88_1, field_77_1, agg_74, map_74, Try.results21, rpart,h43,h54,h53,Ne.symm h43,Ne.symm h54,Ne.symm h53]) | refine AW.block ?_ | with_reducible refine AW.condT rfl ?_ | with_reducible refine AW.condF rfl ?_)
  refine right_av at_ h _ _ ?_
  try simp only [undef, aops, aop, acall, ev, ofValue, put_some, put_none, AThen, ABlock, APost, ares, oneOrTup, upd_get, entry_get, guardOf, Nat.reduceEqDiff, ↓reduceIte, List.getD_cons_zero, List.getD_cons_succ, List.getD_nil, abuild, abuildSlice, parts, zcells, Value.cells, afill, cells_agg, cells_v, cells_sl, cells_rp, cells_ifc, cells_mp, mkIfc, splice, List.map_cons, List.map_nil, List.length_cons, List.length_nil, List.take_succ_cons, List.take_zero, List.drop_succ_cons, List.drop_zero, List.take_nil, List.drop_nil, List.nil_append, List.cons_append, List.append_nil, List.getElem?_cons_zero, List.getElem?_cons_succ, List.all_cons, List.all_nil, one_v, one_sl, one_rp, one_ifc, one_mp, one_agg, Value.oneCell', Bool.and_self, Bool.and_true, Bool.true_and, true_and, and_true, Nat.reduceAdd, Nat.reduceLeDiff, Nat.reduceMul, Nat.zero_add, Nat.add_zero, Nat.le_refl, Nat.zero_le, aload, astore, abox, aalloc, abin, aint, ashift, apick, anil, anils, isNilC, aun, aconvInt, arange, anext, aentry, aassertAny, aassert2, anilm, aifeq, ainvoke, ne_eq, not_true_eq_false, not_false_eq_true, afieldAddr, afield, apart, rpart, aindexAddr, aindex, alen, aextract, aassert, amakeFunc, amakeSlice, amakeMap, alookup, amapUpdate, adelete, acopy, acopySrc, srcOf, aappend, bcells_eq, bcellsR, mcells_one, mcells_zero, List.length_replicate, List.size_toArray, Int.cast_ofNat_Int, Int.one_mul, Int.reduceToNat, Int.reduceLT, Int.reduceLE, Int.reduceMul, Int.reduceAdd, Int.reduceSub, Int.reduceNeg, Int.reduceEq, Nat.reduceLT, Nat.reduceSub, flats, amax, amin, aslice, abounds, optInt, Option.map_some, Option.map_none, Option.getD_some, Option.getD_none, Option.bind_some, Option.bind_none, Option.isSome_some, Option.isSome_none, false_imp_iff, hp_get_nil, hp_get_cons, hp_del_nil, hp_del_cons, hp_notin_nil, hp_notin_cons, hp_set_out, hp_get_out, hp_del_out, and_imp, hp_set_nil, hp_set_cons, List.map_toArray, Array.toList_map, reduceCtorEq, false_and, and_false, if_true, if_false, Bool.false_eq_true, Bool.not_true, Bool.not_false, decide_true, decide_false, implies_true, forall_const, List.length_map, qops, qop, exists_eq_left', exists_eq_left, and_assoc, exists_and_left, Int.toNat_natCast, Int.natCast_nonneg, Nat.mul_one, agg_3, zero_23, zero_29, iface_29, issl_29, isptr_29, cmp_71, agg_23, agg_29, field_77_2, agg_75, zero_88, agg_88, field_88_0, iface_3, issl_3, isptr_3, field_88_1, field_77_1, agg_74, map_74, Try.results21, rpart,h43,h54,h53,Ne.symm h43,Ne.symm h54,Ne.symm h53]
  repeat' (first | refine AW.seq ?_ | ((first | refine AW.reg (by rfl) ?_ | refine AW.skip ?_ | refine AW.ret ?_ | refine AW.exit ?_); simp only [undef, aops, aop, acall, ev, ofValue, put_some, put_none, AThen, ABlock, APost, ares, oneOrTup, upd_get, entry_get, guardOf, Nat.reduceEqDiff, ↓reduceIte, List.getD_cons_zero, List.getD_cons_succ, List.getD_nil, abuild, abuildSlice, parts, zcells, Value.cells, afill, cells_agg, cells_v, cells_sl, cells_rp, cells_ifc, cells_mp, mkIfc, splice, List.map_cons, List.map_nil, List.length_cons, List.length_nil, List.take_succ_cons, List.take_zero, List.drop_succ_cons, List.drop_zero, List.take_nil, List.drop_nil, List.nil_append, List.cons_append, List.append_nil, List.getElem?_cons_zero, List.getElem?_cons_succ, List.all_cons, List.all_nil, one_v, one_sl, one_rp, one_ifc, one_mp, one_agg, Value.oneCell', Bool.and_self, Bool.and_true, Bool.true_and, true_and, and_true, Nat.reduceAdd, Nat.reduceLeDiff, Nat.reduceMul, Nat.zero_add, Nat.add_zero, Nat.le_refl, Nat.zero_le, aload, astore, abox, aalloc, abin, aint, ashift, apick, anil, anils, isNilC, aun, aconvInt, arange, anext, aentry, aassertAny, aassert2, anilm, aifeq, ainvoke, ne_eq, not_true_eq_false, not_false_eq_true, afieldAddr, afield, apart, rpart, aindexAddr, aindex, alen, aextract, aassert, amakeFunc, amakeSlice, amakeMap, alookup, amapUpdate, adelete, acopy, acopySrc, srcOf, aappend, bcells_eq, bcellsR, mcells_one, mcells_zero, List.length_replicate, List.size_toArray, Int.cast_ofNat_Int, Int.one_mul, Int.reduceToNat, Int.reduceLT, Int.reduceLE, Int.reduceMul, Int.reduceAdd, Int.reduceSub, Int.reduceNeg, Int.reduceEq, Nat.reduceLT, Nat.reduceSub, flats, amax, amin, aslice, abounds, optInt, Option.map_some, Option.map_none, Option.getD_some, Option.getD_none, Option.bind_some, Option.bind_none, Option.isSome_some, Option.isSome_none, false_imp_iff, hp_get_nil, hp_get_cons, hp_del_nil, hp_del_cons, hp_notin_nil, hp_notin_cons, hp_set_out, hp_get_out, hp_del_out, and_imp, hp_set_nil, hp_set_cons, List.map_toArray, Array.toList_map, reduceCtorEq, false_and, and_false, if_true, if_false, Bool.false_eq_true, Bool.not_true, Bool.not_false, decide_true, decide_false, implies_true, forall_const, List.length_map, qops, qop, exists_eq_left', exists_eq_left, and_assoc, exists_and_left, Int.toNat_natCast, Int.natCast_nonneg, Nat.mul_one, agg_3, zero_23, zero_29, iface_29, issl_29, isptr_29, cmp_71, agg_23, agg_29, field_77_2, agg_75, zero_88, agg_88, field_88_0, iface_3, issl_3, isptr_3, field_88_1, field_77_1, agg_74, map_74, Try.results21, rpart,h43,h54,h53,Ne.symm h43,Ne.symm h54,Ne.symm h53]) | refine AW.block ?_ | with_reducible refine AW.condT rfl ?_ | with_reducible refine AW.condF rfl ?_)
  refine ⟨rfl, ?_⟩
  refine back_av _ _ _ ?_
  intro p hp
  simp only [hp_notin_cons, hp_notin_nil, and_true] at hp
  obtain ⟨hp5, hp4, hp3⟩ := hp
  try simp only [undef, aops, aop, acall, ev, ofValue, put_some, put_none, AThen, ABlock, APost, ares, oneOrTup, upd_get, entry_get, guardOf, Nat.reduceEqDiff, ↓reduceIte, List.getD_cons_zero, List.getD_cons_succ, List.getD_nil, abuild, abuildSlice, parts, zcells, Value.cells, afill, cells_agg, cells_v, cells_sl, cells_rp, cells_ifc, cells_mp, mkIfc, splice, List.map_cons, List.map_nil, List.length_cons, List.length_nil, List.take_succ_cons, List.take_zero, List.drop_succ_cons, List.drop_zero, List.take_nil, List.drop_nil, List.nil_append, List.cons_append, List.append_nil, List.getElem?_cons_zero, List.getElem?_cons_succ, List.all_cons, List.all_nil, one_v, one_sl, one_rp, one_ifc, one_mp, one_agg, Value.oneCell', Bool.and_self, Bool.and_true, Bool.true_and, true_and, and_true, Nat.reduceAdd, Nat.reduceLeDiff, Nat.reduceMul, Nat.zero_add, Nat.add_zero, Nat.le_refl, Nat.zero_le, aload, astore, abox, aalloc, abin, aint, ashift, apick, anil, anils, isNilC, aun, aconvInt, arange, anext, aentry, aassertAny, aassert2, anilm, aifeq, ainvoke, ne_eq, not_true_eq_false, not_false_eq_true, afieldAddr, afield, apart, rpart, aindexAddr, aindex, alen, aextract, aassert, amakeFunc, amakeSlice, amakeMap, alookup, amapUpdate, adelete, acopy, acopySrc, srcOf, aappend, bcells_eq, bcellsR, mcells_one, mcells_zero, List.length_replicate, List.size_toArray, Int.cast_ofNat_Int, Int.one_mul, Int.reduceToNat, Int.reduceLT, Int.reduceLE, Int.reduceMul, Int.reduceAdd, Int.reduceSub, Int.reduceNeg, Int.reduceEq, Nat.reduceLT, Nat.reduceSub, flats, amax, amin, aslice, abounds, optInt, Option.map_some, Option.map_none, Option.getD_some, Option.getD_none, Option.bind_some, Option.bind_none, Option.isSome_some, Option.isSome_none, false_imp_iff, hp_get_nil, hp_get_cons, hp_del_nil, hp_del_cons, hp_notin_nil, hp_notin_cons, hp_set_out, hp_get_out, hp_del_out, and_imp, hp_set_nil, hp_set_cons, List.map_toArray, Array.toList_map, reduceCtorEq, false_and, and_false, if_true, if_false, Bool.false_eq_true, Bool.not_true, Bool.not_false, decide_true, decide_false, implies_true, forall_const, List.length_map, qops, qop, exists_eq_left', exists_eq_left, and_assoc, exists_and_left, Int.toNat_natCast, Int.natCast_nonneg, Nat.mul_one, agg_3, zero_23, zero_29, iface_29, issl_29, isptr_29, cmp_71, agg_23, agg_29, field_77_2, agg_75, zero_88, agg_88, field_88_0, iface_3, issl_3, isptr_3, field_88_1, field_77_1, agg_74, map_74, Try.results21, rpart,h43,h54,h53,Ne.symm h43,Ne.symm h54,Ne.symm h53]
  repeat' (first | refine AW.seq ?_ | ((first | refine AW.reg (by rfl) ?_ | refine AW.skip ?_ | refine AW.ret ?_ | refine AW.exit ?_); simp only [undef, aops, aop, acall, ev, ofValue, put_some, put_none, AThen, ABlock, APost, ares, oneOrTup, upd_get, entry_get, guardOf, Nat.reduceEqDiff, ↓reduceIte, List.getD_cons_zero, List.getD_cons_succ, List.getD_nil, abuild, abuildSlice, parts, zcells, Value.cells, afill, cells_agg, cells_v, cells_sl, cells_rp, cells_ifc, cells_mp, mkIfc, splice, List.map_cons, List.map_nil, List.length_cons, List.length_nil, List.take_succ_cons, List.take_zero, List.drop_succ_cons, List.drop_zero, List.take_nil, List.drop_nil, List.nil_append, List.cons_append, List.append_nil, List.getElem?_cons_zero, List.getElem?_cons_succ, List.all_cons, List.all_nil, one_v, one_sl, one_rp, one_ifc, one_mp, one_agg, Value.oneCell', Bool.and_self, Bool.and_true, Bool.true_and, true_and, and_true, Nat.reduceAdd, Nat.reduceLeDiff, Nat.reduceMul, Nat.zero_add, Nat.add_zero, Nat.le_refl, Nat.zero_le, aload, astore, abox, aalloc, abin, aint, ashift, apick, anil, anils, isNilC, aun, aconvInt, arange, anext, aentry, aassertAny, aassert2, anilm, aifeq, ainvoke, ne_eq, not_true_eq_false, not_false_eq_true, afieldAddr, afield, apart, rpart, aindexAddr, aindex, alen, aextract, aassert, amakeFunc, amakeSlice, amakeMap, alookup, amapUpdate, adelete, acopy, acopySrc, srcOf, aappend, bcells_eq, bcellsR, mcells_one, mcells_zero, List.length_replicate, List.size_toArray, Int.cast_ofNat_Int, Int.one_mul, Int.reduceToNat, Int.reduceLT, Int.reduceLE, Int.reduceMul, Int.reduceAdd, Int.reduceSub, Int.reduceNeg, Int.reduceEq, Nat.reduceLT, Nat.reduceSub, flats, amax, amin, aslice, abounds, optInt, Option.map_some, Option.map_none, Option.getD_some, Option.getD_none, Option.bind_some, Option.bind_none, Option.isSome_some, Option.isSome_none, false_imp_iff, hp_get_nil, hp_get_cons, hp_del_nil, hp_del_cons, hp_notin_nil, hp_notin_cons, hp_set_out, hp_get_out, hp_del_out, and_imp, hp_set_nil, hp_set_cons, List.map_toArray, Array.toList_map, reduceCtorEq, false_and, and_false, if_true, if_false, Bool.false_eq_true, Bool.not_true, Bool.not_false, decide_true, decide_false, implies_true, forall_const, List.length_map, qops, qop, exists_eq_left', exists_eq_left, and_assoc, exists_and_left, Int.toNat_natCast, Int.natCast_nonneg, Nat.mul_one, agg_3, zero_23, zero_29, iface_29, issl_29, isptr_29, cmp_71, agg_23, agg_29, field_77_2, agg_75, zero_88, agg_88, field_88_0, iface_3, issl_3, isptr_3, field_88_1, field_77_1, agg_74, map_74, Try.results21, rpart,h43,h54,h53,Ne.symm h43,Ne.symm h54,Ne.symm h53]) | refine AW.block ?_ | with_reducible refine AW.condT rfl ?_ | with_reducible refine AW.condF rfl ?_)
  refine AW.gen fun e hE => ?_
  have e0 : e 0 = .rp (.agg [.v (.int .i64 rm), .mp .i64 (mC es), .sl 2 (ps.map pC)]) := hE 0
  have e3 : e 3 = .v (.pointer (some ⟨b3, 0, none⟩)) := hE 3
  have e4 : e 4 = .v (.pointer (some ⟨b4, 0, none⟩)) := hE 4
  have e5 : e 5 = .v (.pointer (some ⟨b5, 0, none⟩)) := hE 5
  have e18 : e 18 = .v (.func (.func 62) #[] #[.pointer (some ⟨p, 0, none⟩)]) := hE 18
  clear hE
  refine AW.rangeFunc 62 #[] #[.pointer (some ⟨p, 0, none⟩)] e18 ⟨_, _, Try.func62, rfl, by kernel_rfl⟩ ?_
  intro l rec hl hr1 hr2 hr3 hr4 hr5
  simp only [hp_notin_cons, hp_notin_nil, and_true] at hl
  obtain ⟨hlp, hl5, hl4, hl3⟩ := hl
  refine Meets.nodup fun hnd => ?_
  generalize hQ : RfEnd _ _ _ _ _ _ = K2
  show Meets _ _ [.v (.func (.yield l) #[] #[]), .v (.pointer (some ⟨p, 0, none⟩))] _ _
  refine Meets.body Try.func62 rfl rfl (by simp [Try.ntmps62]) ?_
  repeat' (first | refine AW.seq ?_ | ((first | refine AW.reg (by rfl) ?_ | refine AW.skip ?_ | refine AW.ret ?_ | refine AW.exit ?_); simp only [undef, aops, aop, acall, ev, ofValue, put_some, put_none, AThen, ABlock, APost, ares, oneOrTup, upd_get, entry_get, guardOf, Nat.reduceEqDiff, ↓reduceIte, List.getD_cons_zero, List.getD_cons_succ, List.getD_nil, abuild, abuildSlice, parts, zcells, Value.cells, afill, cells_agg, cells_v, cells_sl, cells_rp, cells_ifc, cells_mp, mkIfc, splice, List.map_cons, List.map_nil, List.length_cons, List.length_nil, List.take_succ_cons, List.take_zero, List.drop_succ_cons, List.drop_zero, List.take_nil, List.drop_nil, List.nil_append, List.cons_append, List.append_nil, List.getElem?_cons_zero, List.getElem?_cons_succ, List.all_cons, List.all_nil, one_v, one_sl, one_rp, one_ifc, one_mp, one_agg, Value.oneCell', Bool.and_self, Bool.and_true, Bool.true_and, true_and, and_true, Nat.reduceAdd, Nat.reduceLeDiff, Nat.reduceMul, Nat.zero_add, Nat.add_zero, Nat.le_refl, Nat.zero_le, aload, astore, abox, aalloc, abin, aint, ashift, apick, anil, anils, isNilC, aun, aconvInt, arange, anext, aentry, aassertAny, aassert2, anilm, aifeq, ainvoke, ne_eq, not_true_eq_false, not_false_eq_true, afieldAddr, afield, apart, rpart, aindexAddr, aindex, alen, aextract, aassert, amakeFunc, amakeSlice, amakeMap, alookup, amapUpdate, adelete, acopy, acopySrc, srcOf, aappend, bcells_eq, bcellsR, mcells_one, mcells_zero, List.length_replicate, List.size_toArray, Int.cast_ofNat_Int, Int.one_mul, Int.reduceToNat, Int.reduceLT, Int.reduceLE, Int.reduceMul, Int.reduceAdd, Int.reduceSub, Int.reduceNeg, Int.reduceEq, Nat.reduceLT, Nat.reduceSub, flats, amax, amin, aslice, abounds, optInt, Option.map_some, Option.map_none, Option.getD_some, Option.getD_none, Option.bind_some, Option.bind_none, Option.isSome_some, Option.isSome_none, false_imp_iff, hp_get_nil, hp_get_cons, hp_del_nil, hp_del_cons, hp_notin_nil, hp_notin_cons, hp_set_out, hp_get_out, hp_del_out, and_imp, hp_set_nil, hp_set_cons, List.map_toArray, Array.toList_map, reduceCtorEq, false_and, and_false, if_true, if_false, Bool.false_eq_true, Bool.not_true, Bool.not_false, decide_true, decide_false, implies_true, forall_const, List.length_map, qops, qop, exists_eq_left', exists_eq_left, and_assoc, exists_and_left, Int.toNat_natCast, Int.natCast_nonneg, Nat.mul_one, agg_75, elem_75, arr_75, str_75, ismap_75, agg_88, Try.results62, hlp,Ne.symm hlp]) | refine AW.block ?_ | with_reducible refine AW.condT rfl ?_ | with_reducible refine AW.condF rfl ?_)
  have hlen2 : IntKind.i64.wrap ((ps.length : Int) - 1) = (ps.length : Int) - 1 := wrap_i64 (by omega) (by omega)
  obtain ⟨S0, hS0⟩ : ∃ S0 : Hp, S0 = [(p, .cells 75 [.sl 2 (ps.map pC)] 1), (b5, .cells 29 [.v .nilIface] 1), (b4, .cells 23 [.v (.slice none 0 0)] 1), (b3, .cells 3 [.v (.int .i64 at_)] 1)] := ⟨_, rfl⟩
  obtain ⟨H, hH⟩ : ∃ H : Nat → Env → Hp → Prop, H = fun mm e' st => ∃ (i : Nat), i ≤ ps.length ∧ st = (l, .lp rec Try.f21.ntmps e) :: S0 ∧ mm = i ∧ e' 0 = .v (.func (.yield l) #[] #[]) ∧ e' 1 = .v (.pointer (some ⟨p, 0, none⟩)) ∧ e' 3 = .v (.int .i64 ((i : Int) - 1)) ∧
      (∀ j (h : j < ps.length), i ≤ j → ps[j].1 ≠ at_) := ⟨_, rfl⟩
  refine (AW.loop H ps.length ?_ ?_)
  · rw [hH, hS0]
    exact ⟨ps.length, Nat.le_refl _, rfl, rfl, rfl, rfl, by simp only [upd_get]; rw [if_pos trivial, hlen2], fun j h hj => absurd hj (by omega)⟩
  intro mm e' st hst
  rw [hH] at hst
  obtain ⟨i, hi, rfl, rfl, f0, f1, f3, hno⟩ := hst
  cases mm with
  | zero =>
    have hge : decide (0 ≤ ((0 : Nat) : Int) - 1) = false := by simp
    repeat' (first | refine AW.seq ?_ | ((first | refine AW.reg (by rfl) ?_ | refine AW.skip ?_ | refine AW.ret ?_ | refine AW.exit ?_); simp only [undef, aops, aop, acall, ev, ofValue, put_some, put_none, AThen, ABlock, APost, ares, oneOrTup, upd_get, entry_get, guardOf, Nat.reduceEqDiff, ↓reduceIte, List.getD_cons_zero, List.getD_cons_succ, List.getD_nil, abuild, abuildSlice, parts, zcells, Value.cells, afill, cells_agg, cells_v, cells_sl, cells_rp, cells_ifc, cells_mp, mkIfc, splice, List.map_cons, List.map_nil, List.length_cons, List.length_nil, List.take_succ_cons, List.take_zero, List.drop_succ_cons, List.drop_zero, List.take_nil, List.drop_nil, List.nil_append, List.cons_append, List.append_nil, List.getElem?_cons_zero, List.getElem?_cons_succ, List.all_cons, List.all_nil, one_v, one_sl, one_rp, one_ifc, one_mp, one_agg, Value.oneCell', Bool.and_self, Bool.and_true, Bool.true_and, true_and, and_true, Nat.reduceAdd, Nat.reduceLeDiff, Nat.reduceMul, Nat.zero_add, Nat.add_zero, Nat.le_refl, Nat.zero_le, aload, astore, abox, aalloc, abin, aint, ashift, apick, anil, anils, isNilC, aun, aconvInt, arange, anext, aentry, aassertAny, aassert2, anilm, aifeq, ainvoke, ne_eq, not_true_eq_false, not_false_eq_true, afieldAddr, afield, apart, rpart, aindexAddr, aindex, alen, aextract, aassert, amakeFunc, amakeSlice, amakeMap, alookup, amapUpdate, adelete, acopy, acopySrc, srcOf, aappend, bcells_eq, bcellsR, mcells_one, mcells_zero, List.length_replicate, List.size_toArray, Int.cast_ofNat_Int, Int.one_mul, Int.reduceToNat, Int.reduceLT, Int.reduceLE, Int.reduceMul, Int.reduceAdd, Int.reduceSub, Int.reduceNeg, Int.reduceEq, Nat.reduceLT, Nat.reduceSub, flats, amax, amin, aslice, abounds, optInt, Option.map_some, Option.map_none, Option.getD_some, Option.getD_none, Option.bind_some, Option.bind_none, Option.isSome_some, Option.isSome_none, false_imp_iff, hp_get_nil, hp_get_cons, hp_del_nil, hp_del_cons, hp_notin_nil, hp_notin_cons, hp_set_out, hp_get_out, hp_del_out, and_imp, hp_set_nil, hp_set_cons, List.map_toArray, Array.toList_map, reduceCtorEq, false_and, and_false, if_true, if_false, Bool.false_eq_true, Bool.not_true, Bool.not_false, decide_true, decide_false, implies_true, forall_const, List.length_map, qops, qop, exists_eq_left', exists_eq_left, and_assoc, exists_and_left, Int.toNat_natCast, Int.natCast_nonneg, Nat.mul_one, agg_75, elem_75, arr_75, str_75, ismap_75, agg_88, Try.results62, f0,f1,f3,hge]) | refine AW.block ?_ | with_reducible refine AW.condT rfl ?_ | with_reducible refine AW.condF rfl ?_)
    rw [← hQ]
    refine ⟨S0, rec, rfl, by rw [hr1]; simp, ?_⟩
    rw [hr2]
    simp only [ABlock, AThen]
    refine AW.seq ?_
    refine AW.drw 5 rfl rfl rfl ?_
    rw [hS0]
    simp only [undef, aops, aop, acall, ev, ofValue, put_some, put_none, AThen, ABlock, APost, ares, oneOrTup, upd_get, entry_get, guardOf, Nat.reduceEqDiff, ↓reduceIte, List.getD_cons_zero, List.getD_cons_succ, List.getD_nil, abuild, abuildSlice, parts, zcells, Value.cells, afill, cells_agg, cells_v, cells_sl, cells_rp, cells_ifc, cells_mp, mkIfc, splice, List.map_cons, List.map_nil, List.length_cons, List.length_nil, List.take_succ_cons, List.take_zero, List.drop_succ_cons, List.drop_zero, List.take_nil, List.drop_nil, List.nil_append, List.cons_append, List.append_nil, List.getElem?_cons_zero, List.getElem?_cons_succ, List.all_cons, List.all_nil, one_v, one_sl, one_rp, one_ifc, one_mp, one_agg, Value.oneCell', Bool.and_self, Bool.and_true, Bool.true_and, true_and, and_true, Nat.reduceAdd, Nat.reduceLeDiff, Nat.reduceMul, Nat.zero_add, Nat.add_zero, Nat.le_refl, Nat.zero_le, aload, astore, abox, aalloc, abin, aint, ashift, apick, anil, anils, isNilC, aun, aconvInt, arange, anext, aentry, aassertAny, aassert2, anilm, aifeq, ainvoke, ne_eq, not_true_eq_false, not_false_eq_true, afieldAddr, afield, apart, rpart, aindexAddr, aindex, alen, aextract, aassert, amakeFunc, amakeSlice, amakeMap, alookup, amapUpdate, adelete, acopy, acopySrc, srcOf, aappend, bcells_eq, bcellsR, mcells_one, mcells_zero, List.length_replicate, List.size_toArray, Int.cast_ofNat_Int, Int.one_mul, Int.reduceToNat, Int.reduceLT, Int.reduceLE, Int.reduceMul, Int.reduceAdd, Int.reduceSub, Int.reduceNeg, Int.reduceEq, Nat.reduceLT, Nat.reduceSub, flats, amax, amin, aslice, abounds, optInt, Option.map_some, Option.map_none, Option.getD_some, Option.getD_none, Option.bind_some, Option.bind_none, Option.isSome_some, Option.isSome_none, false_imp_iff, hp_get_nil, hp_get_cons, hp_del_nil, hp_del_cons, hp_notin_nil, hp_notin_cons, hp_set_out, hp_get_out, hp_del_out, and_imp, hp_set_nil, hp_set_cons, List.map_toArray, Array.toList_map, reduceCtorEq, false_and, and_false, if_true, if_false, Bool.false_eq_true, Bool.not_true, Bool.not_false, decide_true, decide_false, implies_true, forall_const, List.length_map, qops, qop, exists_eq_left', exists_eq_left, and_assoc, exists_and_left, Int.toNat_natCast, Int.natCast_nonneg, Nat.mul_one, agg_3, zero_23, zero_29, iface_29, issl_29, isptr_29, cmp_71, agg_23, agg_29, field_77_2, agg_75, zero_88, agg_88, field_88_0, iface_3, issl_3, isptr_3, field_88_1, field_77_1, agg_74, map_74, Try.results21, e0, e3, e4, e5, rpart, h43, h54, h53, Ne.symm h43, Ne.symm h54, Ne.symm h53, hp5, hp4, hp3, Ne.symm hp5, Ne.symm hp4, Ne.symm hp3]
    refine ⟨rfl, ?_⟩
    have hmg : Eng.mget (mC es) at_ = (Pl.pget es at_).map (fun b => .sl 1 (cel b)) := Pl.mget_gmap _ _ _
    have hlast : lastC at_ ps = none := lastC_none (fun x hx => by
      obtain ⟨j, hj, rfl⟩ := List.mem_iff_getElem.1 hx
      exact hno j hj (Nat.zero_le _))
    have fin : ∀ (b : List Int), (Pl.pget es at_).getD [] = b → ∀ (q cap : Nat) (t : Hp), 64 ≤ cap → cap ≤ maxLen → [(q, AObj.cells 5 (cel (Mac.blk b)) (cap * 1))].Sublist t → K' (.tup [.v (.slice (some ⟨q, 0, none⟩) 64 cap), .v .nilIface]) t := by
      intro b hb q cap t h1 h2 h3
      rw [hK']
      refine ⟨q, cap, _, h1, h2, rfl, rfl, ?_⟩
      unfold readC
      rw [hlast]
      simp only [hb]
      exact h3
    rw [hmg]
    cases hpg : Pl.pget es at_ with
    | none =>
      simp only [Option.map_none]
      refine whole_av_nil _ _ ?_
      intro q cap hq h64 hmx
      simp only [hp_notin_cons, hp_notin_nil, and_true] at hq
      obtain ⟨hqp, hq5, hq4, hq3⟩ := hq
      try simp only [undef, aops, aop, acall, ev, ofValue, put_some, put_none, AThen, ABlock, APost, ares, oneOrTup, upd_get, entry_get, guardOf, Nat.reduceEqDiff, ↓reduceIte, List.getD_cons_zero, List.getD_cons_succ, List.getD_nil, abuild, abuildSlice, parts, zcells, Value.cells, afill, cells_agg, cells_v, cells_sl, cells_rp, cells_ifc, cells_mp, mkIfc, splice, List.map_cons, List.map_nil, List.length_cons, List.length_nil, List.take_succ_cons, List.take_zero, List.drop_succ_cons, List.drop_zero, List.take_nil, List.drop_nil, List.nil_append, List.cons_append, List.append_nil, List.getElem?_cons_zero, List.getElem?_cons_succ, List.all_cons, List.all_nil, one_v, one_sl, one_rp, one_ifc, one_mp, one_agg, Value.oneCell', Bool.and_self, Bool.and_true, Bool.true_and, true_and, and_true, Nat.reduceAdd, Nat.reduceLeDiff, Nat.reduceMul, Nat.zero_add, Nat.add_zero, Nat.le_refl, Nat.zero_le, aload, astore, abox, aalloc, abin, aint, ashift, apick, anil, anils, isNilC, aun, aconvInt, arange, anext, aentry, aassertAny, aassert2, anilm, aifeq, ainvoke, ne_eq, not_true_eq_false, not_false_eq_true, afieldAddr, afield, apart, rpart, aindexAddr, aindex, alen, aextract, aassert, amakeFunc, amakeSlice, amakeMap, alookup, amapUpdate, adelete, acopy, acopySrc, srcOf, aappend, bcells_eq, bcellsR, mcells_one, mcells_zero, List.length_replicate, List.size_toArray, Int.cast_ofNat_Int, Int.one_mul, Int.reduceToNat, Int.reduceLT, Int.reduceLE, Int.reduceMul, Int.reduceAdd, Int.reduceSub, Int.reduceNeg, Int.reduceEq, Nat.reduceLT, Nat.reduceSub, flats, amax, amin, aslice, abounds, optInt, Option.map_some, Option.map_none, Option.getD_some, Option.getD_none, Option.bind_some, Option.bind_none, Option.isSome_some, Option.isSome_none, false_imp_iff, hp_get_nil, hp_get_cons, hp_del_nil, hp_del_cons, hp_notin_nil, hp_notin_cons, hp_set_out, hp_get_out, hp_del_out, and_imp, hp_set_nil, hp_set_cons, List.map_toArray, Array.toList_map, reduceCtorEq, false_and, and_false, if_true, if_false, Bool.false_eq_true, Bool.not_true, Bool.not_false, decide_true, decide_false, implies_true, forall_const, List.length_map, qops, qop, exists_eq_left', exists_eq_left, and_assoc, exists_and_left, Int.toNat_natCast, Int.natCast_nonneg, Nat.mul_one, agg_3, zero_23, zero_29, iface_29, issl_29, isptr_29, cmp_71, agg_23, agg_29, field_77_2, agg_75, zero_88, agg_88, field_88_0, iface_3, issl_3, isptr_3, field_88_1, field_77_1, agg_74, map_74, Try.results21, e0,e3,e4,e5,rpart,h43,h54,h53,Ne.symm h43,Ne.symm h54,Ne.symm h53,hp5,hp4,hp3,Ne.symm hp5,Ne.symm hp4,Ne.symm hp3,hqp,hq5,hq4,hq3,Ne.symm hqp,Ne.symm hq5,Ne.symm hq4,Ne.symm hq3]
      repeat' (first | refine AW.seq ?_ | ((first | refine AW.reg (by rfl) ?_ | refine AW.skip ?_ | refine AW.ret ?_ | refine AW.exit ?_); simp only [undef, aops, aop, acall, ev, ofValue, put_some, put_none, AThen, ABlock, APost, ares, oneOrTup, upd_get, entry_get, guardOf, Nat.reduceEqDiff, ↓reduceIte, List.getD_cons_zero, List.getD_cons_succ, List.getD_nil, abuild, abuildSlice, parts, zcells, Value.cells, afill, cells_agg, cells_v, cells_sl, cells_rp, cells_ifc, cells_mp, mkIfc, splice, List.map_cons, List.map_nil, List.length_cons, List.length_nil, List.take_succ_cons, List.take_zero, List.drop_succ_cons, List.drop_zero, List.take_nil, List.drop_nil, List.nil_append, List.cons_append, List.append_nil, List.getElem?_cons_zero, List.getElem?_cons_succ, List.all_cons, List.all_nil, one_v, one_sl, one_rp, one_ifc, one_mp, one_agg, Value.oneCell', Bool.and_self, Bool.and_true, Bool.true_and, true_and, and_true, Nat.reduceAdd, Nat.reduceLeDiff, Nat.reduceMul, Nat.zero_add, Nat.add_zero, Nat.le_refl, Nat.zero_le, aload, astore, abox, aalloc, abin, aint, ashift, apick, anil, anils, isNilC, aun, aconvInt, arange, anext, aentry, aassertAny, aassert2, anilm, aifeq, ainvoke, ne_eq, not_true_eq_false, not_false_eq_true, afieldAddr, afield, apart, rpart, aindexAddr, aindex, alen, aextract, aassert, amakeFunc, amakeSlice, amakeMap, alookup, amapUpdate, adelete, acopy, acopySrc, srcOf, aappend, bcells_eq, bcellsR, mcells_one, mcells_zero, List.length_replicate, List.size_toArray, Int.cast_ofNat_Int, Int.one_mul, Int.reduceToNat, Int.reduceLT, Int.reduceLE, Int.reduceMul, Int.reduceAdd, Int.reduceSub, Int.reduceNeg, Int.reduceEq, Nat.reduceLT, Nat.reduceSub, flats, amax, amin, aslice, abounds, optInt, Option.map_some, Option.map_none, Option.getD_some, Option.getD_none, Option.bind_some, Option.bind_none, Option.isSome_some, Option.isSome_none, false_imp_iff, hp_get_nil, hp_get_cons, hp_del_nil, hp_del_cons, hp_notin_nil, hp_notin_cons, hp_set_out, hp_get_out, hp_del_out, and_imp, hp_set_nil, hp_set_cons, List.map_toArray, Array.toList_map, reduceCtorEq, false_and, and_false, if_true, if_false, Bool.false_eq_true, Bool.not_true, Bool.not_false, decide_true, decide_false, implies_true, forall_const, List.length_map, qops, qop, exists_eq_left', exists_eq_left, and_assoc, exists_and_left, Int.toNat_natCast, Int.natCast_nonneg, Nat.mul_one, agg_3, zero_23, zero_29, iface_29, issl_29, isptr_29, cmp_71, agg_23, agg_29, field_77_2, agg_75, zero_88, agg_88, field_88_0, iface_3, issl_3, isptr_3, field_88_1, field_77_1, agg_74, map_74, Try.results21, e0,e3,e4,e5,rpart,h43,h54,h53,Ne.symm h43,Ne.symm h54,Ne.symm h53,hp5,hp4,hp3,Ne.symm hp5,Ne.symm hp4,Ne.symm hp3,hqp,hq5,hq4,hq3,Ne.symm hqp,Ne.symm hq5,Ne.symm hq4,Ne.symm hq3]) | refine AW.block ?_ | with_reducible refine AW.condT rfl ?_ | with_reducible refine AW.condF rfl ?_)
      refine fin [] (by rw [hpg]; rfl) q cap _ h64 hmx ?_
      rw [Nat.mul_one]
      exact .cons_cons _ (List.nil_sublist _)
    | some bb =>
      simp only [Option.map_some]
      refine whole_av bb _ _ ?_
      intro q cap hq h64 hmx
      simp only [hp_notin_cons, hp_notin_nil, and_true] at hq
      obtain ⟨hqp, hq5, hq4, hq3⟩ := hq
      try simp only [undef, aops, aop, acall, ev, ofValue, put_some, put_none, AThen, ABlock, APost, ares, oneOrTup, upd_get, entry_get, guardOf, Nat.reduceEqDiff, ↓reduceIte, List.getD_cons_zero, List.getD_cons_succ, List.getD_nil, abuild, abuildSlice, parts, zcells, Value.cells, afill, cells_agg, cells_v, cells_sl, cells_rp, cells_ifc, cells_mp, mkIfc, splice, List.map_cons, List.map_nil, List.length_cons, List.length_nil, List.take_succ_cons, List.take_zero, List.drop_succ_cons, List.drop_zero, List.take_nil, List.drop_nil, List.nil_append, List.cons_append, List.append_nil, List.getElem?_cons_zero, List.getElem?_cons_succ, List.all_cons, List.all_nil, one_v, one_sl, one_rp, one_ifc, one_mp, one_agg, Value.oneCell', Bool.and_self, Bool.and_true, Bool.true_and, true_and, and_true, Nat.reduceAdd, Nat.reduceLeDiff, Nat.reduceMul, Nat.zero_add, Nat.add_zero, Nat.le_refl, Nat.zero_le, aload, astore, abox, aalloc, abin, aint, ashift, apick, anil, anils, isNilC, aun, aconvInt, arange, anext, aentry, aassertAny, aassert2, anilm, aifeq, ainvoke, ne_eq, not_true_eq_false, not_false_eq_true, afieldAddr, afield, apart, rpart, aindexAddr, aindex, alen, aextract, aassert, amakeFunc, amakeSlice, amakeMap, alookup, amapUpdate, adelete, acopy, acopySrc, srcOf, aappend, bcells_eq, bcellsR, mcells_one, mcells_zero, List.length_replicate, List.size_toArray, Int.cast_ofNat_Int, Int.one_mul, Int.reduceToNat, Int.reduceLT, Int.reduceLE, Int.reduceMul, Int.reduceAdd, Int.reduceSub, Int.reduceNeg, Int.reduceEq, Nat.reduceLT, Nat.reduceSub, flats, amax, amin, aslice, abounds, optInt, Option.map_some, Option.map_none, Option.getD_some, Option.getD_none, Option.bind_some, Option.bind_none, Option.isSome_some, Option.isSome_none, false_imp_iff, hp_get_nil, hp_get_cons, hp_del_nil, hp_del_cons, hp_notin_nil, hp_notin_cons, hp_set_out, hp_get_out, hp_del_out, and_imp, hp_set_nil, hp_set_cons, List.map_toArray, Array.toList_map, reduceCtorEq, false_and, and_false, if_true, if_false, Bool.false_eq_true, Bool.not_true, Bool.not_false, decide_true, decide_false, implies_true, forall_const, List.length_map, qops, qop, exists_eq_left', exists_eq_left, and_assoc, exists_and_left, Int.toNat_natCast, Int.natCast_nonneg, Nat.mul_one, agg_3, zero_23, zero_29, iface_29, issl_29, isptr_29, cmp_71, agg_23, agg_29, field_77_2, agg_75, zero_88, agg_88, field_88_0, iface_3, issl_3, isptr_3, field_88_1, field_77_1, agg_74, map_74, Try.results21, e0,e3,e4,e5,rpart,h43,h54,h53,Ne.symm h43,Ne.symm h54,Ne.symm h53,hp5,hp4,hp3,Ne.symm hp5,Ne.symm hp4,Ne.symm hp3,hqp,hq5,hq4,hq3,Ne.symm hqp,Ne.symm hq5,Ne.symm hq4,Ne.symm hq3]
      repeat' (first | refine AW.seq ?_ | ((first | refine AW.reg (by rfl) ?_ | refine AW.skip ?_ | refine AW.ret ?_ | refine AW.exit ?_); simp only [undef, aops, aop, acall, ev, ofValue, put_some, put_none, AThen, ABlock, APost, ares, oneOrTup, upd_get, entry_get, guardOf, Nat.reduceEqDiff, ↓reduceIte, List.getD_cons_zero, List.getD_cons_succ, List.getD_nil, abuild, abuildSlice, parts, zcells, Value.cells, afill, cells_agg, cells_v, cells_sl, cells_rp, cells_ifc, cells_mp, mkIfc, splice, List.map_cons, List.map_nil, List.length_cons, List.length_nil, List.take_succ_cons, List.take_zero, List.drop_succ_cons, List.drop_zero, List.take_nil, List.drop_nil, List.nil_append, List.cons_append, List.append_nil, List.getElem?_cons_zero, List.getElem?_cons_succ, List.all_cons, List.all_nil, one_v, one_sl, one_rp, one_ifc, one_mp, one_agg, Value.oneCell', Bool.and_self, Bool.and_true, Bool.true_and, true_and, and_true, Nat.reduceAdd, Nat.reduceLeDiff, Nat.reduceMul, Nat.zero_add, Nat.add_zero, Nat.le_refl, Nat.zero_le, aload, astore, abox, aalloc, abin, aint, ashift, apick, anil, anils, isNilC, aun, aconvInt, arange, anext, aentry, aassertAny, aassert2, anilm, aifeq, ainvoke, ne_eq, not_true_eq_false, not_false_eq_true, afieldAddr, afield, apart, rpart, aindexAddr, aindex, alen, aextract, aassert, amakeFunc, amakeSlice, amakeMap, alookup, amapUpdate, adelete, acopy, acopySrc, srcOf, aappend, bcells_eq, bcellsR, mcells_one, mcells_zero, List.length_replicate, List.size_toArray, Int.cast_ofNat_Int, Int.one_mul, Int.reduceToNat, Int.reduceLT, Int.reduceLE, Int.reduceMul, Int.reduceAdd, Int.reduceSub, Int.reduceNeg, Int.reduceEq, Nat.reduceLT, Nat.reduceSub, flats, amax, amin, aslice, abounds, optInt, Option.map_some, Option.map_none, Option.getD_some, Option.getD_none, Option.bind_some, Option.bind_none, Option.isSome_some, Option.isSome_none, false_imp_iff, hp_get_nil, hp_get_cons, hp_del_nil, hp_del_cons, hp_notin_nil, hp_notin_cons, hp_set_out, hp_get_out, hp_del_out, and_imp, hp_set_nil, hp_set_cons, List.map_toArray, Array.toList_map, reduceCtorEq, false_and, and_false, if_true, if_false, Bool.false_eq_true, Bool.not_true, Bool.not_false, decide_true, decide_false, implies_true, forall_const, List.length_map, qops, qop, exists_eq_left', exists_eq_left, and_assoc, exists_and_left, Int.toNat_natCast, Int.natCast_nonneg, Nat.mul_one, agg_3, zero_23, zero_29, iface_29, issl_29, isptr_29, cmp_71, agg_23, agg_29, field_77_2, agg_75, zero_88, agg_88, field_88_0, iface_3, issl_3, isptr_3, field_88_1, field_77_1, agg_74, map_74, Try.results21, e0,e3,e4,e5,rpart,h43,h54,h53,Ne.symm h43,Ne.symm h54,Ne.symm h53,hp5,hp4,hp3,Ne.symm hp5,Ne.symm hp4,Ne.symm hp3,hqp,hq5,hq4,hq3,Ne.symm hqp,Ne.symm hq5,Ne.symm hq4,Ne.symm hq3]) | refine AW.block ?_ | with_reducible refine AW.condT rfl ?_ | with_reducible refine AW.condF rfl ?_)
      refine fin bb (by rw [hpg]; rfl) q cap _ h64 hmx ?_
      rw [Nat.mul_one]
      exact .cons_cons _ (List.nil_sublist _)
  | succ i =>
    have hge : decide (0 ≤ ((i + 1 : Nat) : Int) - 1) = true := by simp
    refine AW.seq ?_
    refine AW.seq ?_
    refine AW.reg (by rfl) ?_
    simp only [undef, aops, aop, acall, ev, ofValue, put_some, put_none, AThen, ABlock, APost, ares, oneOrTup, upd_get, entry_get, guardOf, Nat.reduceEqDiff, ↓reduceIte, List.getD_cons_zero, List.getD_cons_succ, List.getD_nil, abuild, abuildSlice, parts, zcells, Value.cells, afill, cells_agg, cells_v, cells_sl, cells_rp, cells_ifc, cells_mp, mkIfc, splice, List.map_cons, List.map_nil, List.length_cons, List.length_nil, List.take_succ_cons, List.take_zero, List.drop_succ_cons, List.drop_zero, List.take_nil, List.drop_nil, List.nil_append, List.cons_append, List.append_nil, List.getElem?_cons_zero, List.getElem?_cons_succ, List.all_cons, List.all_nil, one_v, one_sl, one_rp, one_ifc, one_mp, one_agg, Value.oneCell', Bool.and_self, Bool.and_true, Bool.true_and, true_and, and_true, Nat.reduceAdd, Nat.reduceLeDiff, Nat.reduceMul, Nat.zero_add, Nat.add_zero, Nat.le_refl, Nat.zero_le, aload, astore, abox, aalloc, abin, aint, ashift, apick, anil, anils, isNilC, aun, aconvInt, arange, anext, aentry, aassertAny, aassert2, anilm, aifeq, ainvoke, ne_eq, not_true_eq_false, not_false_eq_true, afieldAddr, afield, apart, rpart, aindexAddr, aindex, alen, aextract, aassert, amakeFunc, amakeSlice, amakeMap, alookup, amapUpdate, adelete, acopy, acopySrc, srcOf, aappend, bcells_eq, bcellsR, mcells_one, mcells_zero, List.length_replicate, List.size_toArray, Int.cast_ofNat_Int, Int.one_mul, Int.reduceToNat, Int.reduceLT, Int.reduceLE, Int.reduceMul, Int.reduceAdd, Int.reduceSub, Int.reduceNeg, Int.reduceEq, Nat.reduceLT, Nat.reduceSub, flats, amax, amin, aslice, abounds, optInt, Option.map_some, Option.map_none, Option.getD_some, Option.getD_none, Option.bind_some, Option.bind_none, Option.isSome_some, Option.isSome_none, false_imp_iff, hp_get_nil, hp_get_cons, hp_del_nil, hp_del_cons, hp_notin_nil, hp_notin_cons, hp_set_out, hp_get_out, hp_del_out, and_imp, hp_set_nil, hp_set_cons, List.map_toArray, Array.toList_map, reduceCtorEq, false_and, and_false, if_true, if_false, Bool.false_eq_true, Bool.not_true, Bool.not_false, decide_true, decide_false, implies_true, forall_const, List.length_map, qops, qop, exists_eq_left', exists_eq_left, and_assoc, exists_and_left, Int.toNat_natCast, Int.natCast_nonneg, Nat.mul_one, f0, f1, f3]
    refine AW.condT (by simp only [ev, upd_get, if_true]; rw [hge]) ?_
    refine AW.skip ?_
    simp only [AThen]
    refine AW.seq ?_
    refine AW.block ?_
    refine AW.seq ?_
    refine AW.yield 6 (by rfl) ?_
    have hlt : i < ps.length := by omega
    have hidx : (((i + 1 : Nat) : Int) - 1).toNat = i := by omega
    have hat : (ps.map pC).getD i default = .agg [.v (.int .i64 ps[i].1), optC ps[i].2] := by rw [List.getD_eq_getElem?_getD, List.getElem?_map, List.getElem?_eq_getElem hlt]; rfl
    rw [hS0]
    simp only [ayield, List.take, List.drop, undef, aops, aop, acall, ev, ofValue, put_some, put_none, AThen, ABlock, APost, ares, oneOrTup, upd_get, entry_get, guardOf, Nat.reduceEqDiff, ↓reduceIte, List.getD_cons_zero, List.getD_cons_succ, List.getD_nil, abuild, abuildSlice, parts, zcells, Value.cells, afill, cells_agg, cells_v, cells_sl, cells_rp, cells_ifc, cells_mp, mkIfc, splice, List.map_cons, List.map_nil, List.length_cons, List.length_nil, List.take_succ_cons, List.take_zero, List.drop_succ_cons, List.drop_zero, List.take_nil, List.drop_nil, List.nil_append, List.cons_append, List.append_nil, List.getElem?_cons_zero, List.getElem?_cons_succ, List.all_cons, List.all_nil, one_v, one_sl, one_rp, one_ifc, one_mp, one_agg, Value.oneCell', Bool.and_self, Bool.and_true, Bool.true_and, true_and, and_true, Nat.reduceAdd, Nat.reduceLeDiff, Nat.reduceMul, Nat.zero_add, Nat.add_zero, Nat.le_refl, Nat.zero_le, aload, astore, abox, aalloc, abin, aint, ashift, apick, anil, anils, isNilC, aun, aconvInt, arange, anext, aentry, aassertAny, aassert2, anilm, aifeq, ainvoke, ne_eq, not_true_eq_false, not_false_eq_true, afieldAddr, afield, apart, rpart, aindexAddr, aindex, alen, aextract, aassert, amakeFunc, amakeSlice, amakeMap, alookup, amapUpdate, adelete, acopy, acopySrc, srcOf, aappend, bcells_eq, bcellsR, mcells_one, mcells_zero, List.length_replicate, List.size_toArray, Int.cast_ofNat_Int, Int.one_mul, Int.reduceToNat, Int.reduceLT, Int.reduceLE, Int.reduceMul, Int.reduceAdd, Int.reduceSub, Int.reduceNeg, Int.reduceEq, Nat.reduceLT, Nat.reduceSub, flats, amax, amin, aslice, abounds, optInt, Option.map_some, Option.map_none, Option.getD_some, Option.getD_none, Option.bind_some, Option.bind_none, Option.isSome_some, Option.isSome_none, false_imp_iff, hp_get_nil, hp_get_cons, hp_del_nil, hp_del_cons, hp_notin_nil, hp_notin_cons, hp_set_out, hp_get_out, hp_del_out, and_imp, hp_set_nil, hp_set_cons, List.map_toArray, Array.toList_map, reduceCtorEq, false_and, and_false, if_true, if_false, Bool.false_eq_true, Bool.not_true, Bool.not_false, decide_true, decide_false, implies_true, forall_const, List.length_map, qops, qop, exists_eq_left', exists_eq_left, and_assoc, exists_and_left, Int.toNat_natCast, Int.natCast_nonneg, Nat.mul_one, agg_75, elem_75, arr_75, str_75, ismap_75, agg_88, Try.results62, f0, f1, f3, hlp, hl5, hl4, hl3, Ne.symm hlp, Ne.symm hl5, Ne.symm hl4, Ne.symm hl3, hidx, hat]
    refine ⟨by omega, by omega, l, rfl, ?_⟩
    refine YieldS.of hr1 hr2 (by rw [hr3]; rfl) (by rw [hr3]; simp [Try.ntmps21]) ?_
    rw [hr4, hr3, hr5]
    simp only [putAll]
    repeat' (first | refine AW.seq ?_ | ((first | refine AW.reg (by rfl) ?_ | refine AW.skip ?_ | refine AW.ret ?_ | refine AW.exit ?_); simp only [undef, aops, aop, acall, ev, ofValue, put_some, put_none, AThen, ABlock, APost, ares, oneOrTup, upd_get, entry_get, guardOf, Nat.reduceEqDiff, ↓reduceIte, List.getD_cons_zero, List.getD_cons_succ, List.getD_nil, abuild, abuildSlice, parts, zcells, Value.cells, afill, cells_agg, cells_v, cells_sl, cells_rp, cells_ifc, cells_mp, mkIfc, splice, List.map_cons, List.map_nil, List.length_cons, List.length_nil, List.take_succ_cons, List.take_zero, List.drop_succ_cons, List.drop_zero, List.take_nil, List.drop_nil, List.nil_append, List.cons_append, List.append_nil, List.getElem?_cons_zero, List.getElem?_cons_succ, List.all_cons, List.all_nil, one_v, one_sl, one_rp, one_ifc, one_mp, one_agg, Value.oneCell', Bool.and_self, Bool.and_true, Bool.true_and, true_and, and_true, Nat.reduceAdd, Nat.reduceLeDiff, Nat.reduceMul, Nat.zero_add, Nat.add_zero, Nat.le_refl, Nat.zero_le, aload, astore, abox, aalloc, abin, aint, ashift, apick, anil, anils, isNilC, aun, aconvInt, arange, anext, aentry, aassertAny, aassert2, anilm, aifeq, ainvoke, ne_eq, not_true_eq_false, not_false_eq_true, afieldAddr, afield, apart, rpart, aindexAddr, aindex, alen, aextract, aassert, amakeFunc, amakeSlice, amakeMap, alookup, amapUpdate, adelete, acopy, acopySrc, srcOf, aappend, bcells_eq, bcellsR, mcells_one, mcells_zero, List.length_replicate, List.size_toArray, Int.cast_ofNat_Int, Int.one_mul, Int.reduceToNat, Int.reduceLT, Int.reduceLE, Int.reduceMul, Int.reduceAdd, Int.reduceSub, Int.reduceNeg, Int.reduceEq, Nat.reduceLT, Nat.reduceSub, flats, amax, amin, aslice, abounds, optInt, Option.map_some, Option.map_none, Option.getD_some, Option.getD_none, Option.bind_some, Option.bind_none, Option.isSome_some, Option.isSome_none, false_imp_iff, hp_get_nil, hp_get_cons, hp_del_nil, hp_del_cons, hp_notin_nil, hp_notin_cons, hp_set_out, hp_get_out, hp_del_out, and_imp, hp_set_nil, hp_set_cons, List.map_toArray, Array.toList_map, reduceCtorEq, false_and, and_false, if_true, if_false, Bool.false_eq_true, Bool.not_true, Bool.not_false, decide_true, decide_false, implies_true, forall_const, List.length_map, qops, qop, exists_eq_left', exists_eq_left, and_assoc, exists_and_left, Int.toNat_natCast, Int.natCast_nonneg, Nat.mul_one, agg_3, zero_23, zero_29, iface_29, issl_29, isptr_29, cmp_71, agg_23, agg_29, field_77_2, agg_75, zero_88, agg_88, field_88_0, iface_3, issl_3, isptr_3, field_88_1, field_77_1, agg_74, map_74, Try.results21, e0,e3,e4,e5,optC_one,h43,h54,h53,Ne.symm h43,Ne.symm h54,Ne.symm h53,hp5,hp4,hp3,Ne.symm hp5,Ne.symm hp4,Ne.symm hp3]) | refine AW.block ?_ | with_reducible refine AW.condT rfl ?_ | with_reducible refine AW.condF rfl ?_)
    intro b8 h8p h85 h84 h83
    by_cases he : ps[i].1 = at_
    · have hd : (ps[i].1 == at_) = true := by simpa using he
      have hd2 : decide (ps[i].1 = at_) = true := by simpa using he
      repeat' (first | refine AW.seq ?_ | ((first | refine AW.reg (by rfl) ?_ | refine AW.skip ?_ | refine AW.ret ?_ | refine AW.exit ?_); simp only [undef, aops, aop, acall, ev, ofValue, put_some, put_none, AThen, ABlock, APost, ares, oneOrTup, upd_get, entry_get, guardOf, Nat.reduceEqDiff, ↓reduceIte, List.getD_cons_zero, List.getD_cons_succ, List.getD_nil, abuild, abuildSlice, parts, zcells, Value.cells, afill, cells_agg, cells_v, cells_sl, cells_rp, cells_ifc, cells_mp, mkIfc, splice, List.map_cons, List.map_nil, List.length_cons, List.length_nil, List.take_succ_cons, List.take_zero, List.drop_succ_cons, List.drop_zero, List.take_nil, List.drop_nil, List.nil_append, List.cons_append, List.append_nil, List.getElem?_cons_zero, List.getElem?_cons_succ, List.all_cons, List.all_nil, one_v, one_sl, one_rp, one_ifc, one_mp, one_agg, Value.oneCell', Bool.and_self, Bool.and_true, Bool.true_and, true_and, and_true, Nat.reduceAdd, Nat.reduceLeDiff, Nat.reduceMul, Nat.zero_add, Nat.add_zero, Nat.le_refl, Nat.zero_le, aload, astore, abox, aalloc, abin, aint, ashift, apick, anil, anils, isNilC, aun, aconvInt, arange, anext, aentry, aassertAny, aassert2, anilm, aifeq, ainvoke, ne_eq, not_true_eq_false, not_false_eq_true, afieldAddr, afield, apart, rpart, aindexAddr, aindex, alen, aextract, aassert, amakeFunc, amakeSlice, amakeMap, alookup, amapUpdate, adelete, acopy, acopySrc, srcOf, aappend, bcells_eq, bcellsR, mcells_one, mcells_zero, List.length_replicate, List.size_toArray, Int.cast_ofNat_Int, Int.one_mul, Int.reduceToNat, Int.reduceLT, Int.reduceLE, Int.reduceMul, Int.reduceAdd, Int.reduceSub, Int.reduceNeg, Int.reduceEq, Nat.reduceLT, Nat.reduceSub, flats, amax, amin, aslice, abounds, optInt, Option.map_some, Option.map_none, Option.getD_some, Option.getD_none, Option.bind_some, Option.bind_none, Option.isSome_some, Option.isSome_none, false_imp_iff, hp_get_nil, hp_get_cons, hp_del_nil, hp_del_cons, hp_notin_nil, hp_notin_cons, hp_set_out, hp_get_out, hp_del_out, and_imp, hp_set_nil, hp_set_cons, List.map_toArray, Array.toList_map, reduceCtorEq, false_and, and_false, if_true, if_false, Bool.false_eq_true, Bool.not_true, Bool.not_false, decide_true, decide_false, implies_true, forall_const, List.length_map, qops, qop, exists_eq_left', exists_eq_left, and_assoc, exists_and_left, Int.toNat_natCast, Int.natCast_nonneg, Nat.mul_one, agg_3, zero_23, zero_29, iface_29, issl_29, isptr_29, cmp_71, agg_23, agg_29, field_77_2, agg_75, zero_88, agg_88, field_88_0, iface_3, issl_3, isptr_3, field_88_1, field_77_1, agg_74, map_74, Try.results21, e0,e3,e4,e5,optC_one,h43,h54,h53,Ne.symm h43,Ne.symm h54,Ne.symm h53,hp5,hp4,hp3,Ne.symm hp5,Ne.symm hp4,Ne.symm hp3,h8p,h85,h84,h83,Ne.symm h8p,Ne.symm h85,Ne.symm h84,Ne.symm h83,hd,hd2]) | refine AW.block ?_ | with_reducible refine AW.condT rfl ?_ | with_reducible refine AW.condF rfl ?_)
      refine whole_any _ _ _ ?_
      intro q cap hq h64 hmx
      simp only [hp_notin_cons, hp_notin_nil, and_true] at hq
      obtain ⟨hq8, hqp, hq5, hq4, hq3⟩ := hq
      try simp only [undef, aops, aop, acall, ev, ofValue, put_some, put_none, AThen, ABlock, APost, ares, oneOrTup, upd_get, entry_get, guardOf, Nat.reduceEqDiff, ↓reduceIte, List.getD_cons_zero, List.getD_cons_succ, List.getD_nil, abuild, abuildSlice, parts, zcells, Value.cells, afill, cells_agg, cells_v, cells_sl, cells_rp, cells_ifc, cells_mp, mkIfc, splice, List.map_cons, List.map_nil, List.length_cons, List.length_nil, List.take_succ_cons, List.take_zero, List.drop_succ_cons, List.drop_zero, List.take_nil, List.drop_nil, List.nil_append, List.cons_append, List.append_nil, List.getElem?_cons_zero, List.getElem?_cons_succ, List.all_cons, List.all_nil, one_v, one_sl, one_rp, one_ifc, one_mp, one_agg, Value.oneCell', Bool.and_self, Bool.and_true, Bool.true_and, true_and, and_true, Nat.reduceAdd, Nat.reduceLeDiff, Nat.reduceMul, Nat.zero_add, Nat.add_zero, Nat.le_refl, Nat.zero_le, aload, astore, abox, aalloc, abin, aint, ashift, apick, anil, anils, isNilC, aun, aconvInt, arange, anext, aentry, aassertAny, aassert2, anilm, aifeq, ainvoke, ne_eq, not_true_eq_false, not_false_eq_true, afieldAddr, afield, apart, rpart, aindexAddr, aindex, alen, aextract, aassert, amakeFunc, amakeSlice, amakeMap, alookup, amapUpdate, adelete, acopy, acopySrc, srcOf, aappend, bcells_eq, bcellsR, mcells_one, mcells_zero, List.length_replicate, List.size_toArray, Int.cast_ofNat_Int, Int.one_mul, Int.reduceToNat, Int.reduceLT, Int.reduceLE, Int.reduceMul, Int.reduceAdd, Int.reduceSub, Int.reduceNeg, Int.reduceEq, Nat.reduceLT, Nat.reduceSub, flats, amax, amin, aslice, abounds, optInt, Option.map_some, Option.map_none, Option.getD_some, Option.getD_none, Option.bind_some, Option.bind_none, Option.isSome_some, Option.isSome_none, false_imp_iff, hp_get_nil, hp_get_cons, hp_del_nil, hp_del_cons, hp_notin_nil, hp_notin_cons, hp_set_out, hp_get_out, hp_del_out, and_imp, hp_set_nil, hp_set_cons, List.map_toArray, Array.toList_map, reduceCtorEq, false_and, and_false, if_true, if_false, Bool.false_eq_true, Bool.not_true, Bool.not_false, decide_true, decide_false, implies_true, forall_const, List.length_map, qops, qop, exists_eq_left', exists_eq_left, and_assoc, exists_and_left, Int.toNat_natCast, Int.natCast_nonneg, Nat.mul_one, agg_3, zero_23, zero_29, iface_29, issl_29, isptr_29, cmp_71, agg_23, agg_29, field_77_2, agg_75, zero_88, agg_88, field_88_0, iface_3, issl_3, isptr_3, field_88_1, field_77_1, agg_74, map_74, Try.results21, e0,e3,e4,e5,optC_one,h43,h54,h53,Ne.symm h43,Ne.symm h54,Ne.symm h53,hp5,hp4,hp3,Ne.symm hp5,Ne.symm hp4,Ne.symm hp3,h8p,h85,h84,h83,Ne.symm h8p,Ne.symm h85,Ne.symm h84,Ne.symm h83,hq8,hqp,hq5,hq4,hq3,Ne.symm hq8,Ne.symm hqp,Ne.symm hq5,Ne.symm hq4,Ne.symm hq3]
      repeat' (first | refine AW.seq ?_ | ((first | refine AW.reg (by rfl) ?_ | refine AW.skip ?_ | refine AW.ret ?_ | refine AW.exit ?_); simp only [undef, aops, aop, acall, ev, ofValue, put_some, put_none, AThen, ABlock, APost, ares, oneOrTup, upd_get, entry_get, guardOf, Nat.reduceEqDiff, ↓reduceIte, List.getD_cons_zero, List.getD_cons_succ, List.getD_nil, abuild, abuildSlice, parts, zcells, Value.cells, afill, cells_agg, cells_v, cells_sl, cells_rp, cells_ifc, cells_mp, mkIfc, splice, List.map_cons, List.map_nil, List.length_cons, List.length_nil, List.take_succ_cons, List.take_zero, List.drop_succ_cons, List.drop_zero, List.take_nil, List.drop_nil, List.nil_append, List.cons_append, List.append_nil, List.getElem?_cons_zero, List.getElem?_cons_succ, List.all_cons, List.all_nil, one_v, one_sl, one_rp, one_ifc, one_mp, one_agg, Value.oneCell', Bool.and_self, Bool.and_true, Bool.true_and, true_and, and_true, Nat.reduceAdd, Nat.reduceLeDiff, Nat.reduceMul, Nat.zero_add, Nat.add_zero, Nat.le_refl, Nat.zero_le, aload, astore, abox, aalloc, abin, aint, ashift, apick, anil, anils, isNilC, aun, aconvInt, arange, anext, aentry, aassertAny, aassert2, anilm, aifeq, ainvoke, ne_eq, not_true_eq_false, not_false_eq_true, afieldAddr, afield, apart, rpart, aindexAddr, aindex, alen, aextract, aassert, amakeFunc, amakeSlice, amakeMap, alookup, amapUpdate, adelete, acopy, acopySrc, srcOf, aappend, bcells_eq, bcellsR, mcells_one, mcells_zero, List.length_replicate, List.size_toArray, Int.cast_ofNat_Int, Int.one_mul, Int.reduceToNat, Int.reduceLT, Int.reduceLE, Int.reduceMul, Int.reduceAdd, Int.reduceSub, Int.reduceNeg, Int.reduceEq, Nat.reduceLT, Nat.reduceSub, flats, amax, amin, aslice, abounds, optInt, Option.map_some, Option.map_none, Option.getD_some, Option.getD_none, Option.bind_some, Option.bind_none, Option.isSome_some, Option.isSome_none, false_imp_iff, hp_get_nil, hp_get_cons, hp_del_nil, hp_del_cons, hp_notin_nil, hp_notin_cons, hp_set_out, hp_get_out, hp_del_out, and_imp, hp_set_nil, hp_set_cons, List.map_toArray, Array.toList_map, reduceCtorEq, false_and, and_false, if_true, if_false, Bool.false_eq_true, Bool.not_true, Bool.not_false, decide_true, decide_false, implies_true, forall_const, List.length_map, qops, qop, exists_eq_left', exists_eq_left, and_assoc, exists_and_left, Int.toNat_natCast, Int.natCast_nonneg, Nat.mul_one, agg_3, zero_23, zero_29, iface_29, issl_29, isptr_29, cmp_71, agg_23, agg_29, field_77_2, agg_75, zero_88, agg_88, field_88_0, iface_3, issl_3, isptr_3, field_88_1, field_77_1, agg_74, map_74, Try.results21, e0,e3,e4,e5,optC_one,h43,h54,h53,Ne.symm h43,Ne.symm h54,Ne.symm h53,hp5,hp4,hp3,Ne.symm hp5,Ne.symm hp4,Ne.symm hp3,h8p,h85,h84,h83,Ne.symm h8p,Ne.symm h85,Ne.symm h84,Ne.symm h83,hq8,hqp,hq5,hq4,hq3,Ne.symm hq8,Ne.symm hqp,Ne.symm hq5,Ne.symm hq4,Ne.symm hq3]) | refine AW.block ?_ | with_reducible refine AW.condT rfl ?_ | with_reducible refine AW.condF rfl ?_)
      simp only [YEnd]
      try simp only [undef, aops, aop, acall, ev, ofValue, put_some, put_none, AThen, ABlock, APost, ares, oneOrTup, upd_get, entry_get, guardOf, Nat.reduceEqDiff, ↓reduceIte, List.getD_cons_zero, List.getD_cons_succ, List.getD_nil, abuild, abuildSlice, parts, zcells, Value.cells, afill, cells_agg, cells_v, cells_sl, cells_rp, cells_ifc, cells_mp, mkIfc, splice, List.map_cons, List.map_nil, List.length_cons, List.length_nil, List.take_succ_cons, List.take_zero, List.drop_succ_cons, List.drop_zero, List.take_nil, List.drop_nil, List.nil_append, List.cons_append, List.append_nil, List.getElem?_cons_zero, List.getElem?_cons_succ, List.all_cons, List.all_nil, one_v, one_sl, one_rp, one_ifc, one_mp, one_agg, Value.oneCell', Bool.and_self, Bool.and_true, Bool.true_and, true_and, and_true, Nat.reduceAdd, Nat.reduceLeDiff, Nat.reduceMul, Nat.zero_add, Nat.add_zero, Nat.le_refl, Nat.zero_le, aload, astore, abox, aalloc, abin, aint, ashift, apick, anil, anils, isNilC, aun, aconvInt, arange, anext, aentry, aassertAny, aassert2, anilm, aifeq, ainvoke, ne_eq, not_true_eq_false, not_false_eq_true, afieldAddr, afield, apart, rpart, aindexAddr, aindex, alen, aextract, aassert, amakeFunc, amakeSlice, amakeMap, alookup, amapUpdate, adelete, acopy, acopySrc, srcOf, aappend, bcells_eq, bcellsR, mcells_one, mcells_zero, List.length_replicate, List.size_toArray, Int.cast_ofNat_Int, Int.one_mul, Int.reduceToNat, Int.reduceLT, Int.reduceLE, Int.reduceMul, Int.reduceAdd, Int.reduceSub, Int.reduceNeg, Int.reduceEq, Nat.reduceLT, Nat.reduceSub, flats, amax, amin, aslice, abounds, optInt, Option.map_some, Option.map_none, Option.getD_some, Option.getD_none, Option.bind_some, Option.bind_none, Option.isSome_some, Option.isSome_none, false_imp_iff, hp_get_nil, hp_get_cons, hp_del_nil, hp_del_cons, hp_notin_nil, hp_notin_cons, hp_set_out, hp_get_out, hp_del_out, and_imp, hp_set_nil, hp_set_cons, List.map_toArray, Array.toList_map, reduceCtorEq, false_and, and_false, if_true, if_false, Bool.false_eq_true, Bool.not_true, Bool.not_false, decide_true, decide_false, implies_true, forall_const, List.length_map, qops, qop, exists_eq_left', exists_eq_left, and_assoc, exists_and_left, Int.toNat_natCast, Int.natCast_nonneg, Nat.mul_one, agg_75, elem_75, arr_75, str_75, ismap_75, agg_88, Try.results62, f0,f1,f3]
      repeat' (first | refine AW.seq ?_ | ((first | refine AW.reg (by rfl) ?_ | refine AW.skip ?_ | refine AW.ret ?_ | refine AW.exit ?_); simp only [undef, aops, aop, acall, ev, ofValue, put_some, put_none, AThen, ABlock, APost, ares, oneOrTup, upd_get, entry_get, guardOf, Nat.reduceEqDiff, ↓reduceIte, List.getD_cons_zero, List.getD_cons_succ, List.getD_nil, abuild, abuildSlice, parts, zcells, Value.cells, afill, cells_agg, cells_v, cells_sl, cells_rp, cells_ifc, cells_mp, mkIfc, splice, List.map_cons, List.map_nil, List.length_cons, List.length_nil, List.take_succ_cons, List.take_zero, List.drop_succ_cons, List.drop_zero, List.take_nil, List.drop_nil, List.nil_append, List.cons_append, List.append_nil, List.getElem?_cons_zero, List.getElem?_cons_succ, List.all_cons, List.all_nil, one_v, one_sl, one_rp, one_ifc, one_mp, one_agg, Value.oneCell', Bool.and_self, Bool.and_true, Bool.true_and, true_and, and_true, Nat.reduceAdd, Nat.reduceLeDiff, Nat.reduceMul, Nat.zero_add, Nat.add_zero, Nat.le_refl, Nat.zero_le, aload, astore, abox, aalloc, abin, aint, ashift, apick, anil, anils, isNilC, aun, aconvInt, arange, anext, aentry, aassertAny, aassert2, anilm, aifeq, ainvoke, ne_eq, not_true_eq_false, not_false_eq_true, afieldAddr, afield, apart, rpart, aindexAddr, aindex, alen, aextract, aassert, amakeFunc, amakeSlice, amakeMap, alookup, amapUpdate, adelete, acopy, acopySrc, srcOf, aappend, bcells_eq, bcellsR, mcells_one, mcells_zero, List.length_replicate, List.size_toArray, Int.cast_ofNat_Int, Int.one_mul, Int.reduceToNat, Int.reduceLT, Int.reduceLE, Int.reduceMul, Int.reduceAdd, Int.reduceSub, Int.reduceNeg, Int.reduceEq, Nat.reduceLT, Nat.reduceSub, flats, amax, amin, aslice, abounds, optInt, Option.map_some, Option.map_none, Option.getD_some, Option.getD_none, Option.bind_some, Option.bind_none, Option.isSome_some, Option.isSome_none, false_imp_iff, hp_get_nil, hp_get_cons, hp_del_nil, hp_del_cons, hp_notin_nil, hp_notin_cons, hp_set_out, hp_get_out, hp_del_out, and_imp, hp_set_nil, hp_set_cons, List.map_toArray, Array.toList_map, reduceCtorEq, false_and, and_false, if_true, if_false, Bool.false_eq_true, Bool.not_true, Bool.not_false, decide_true, decide_false, implies_true, forall_const, List.length_map, qops, qop, exists_eq_left', exists_eq_left, and_assoc, exists_and_left, Int.toNat_natCast, Int.natCast_nonneg, Nat.mul_one, agg_75, elem_75, arr_75, str_75, ismap_75, agg_88, Try.results62, f0,f1,f3]) | refine AW.block ?_ | with_reducible refine AW.condT rfl ?_ | with_reducible refine AW.condF rfl ?_)
      rw [← hQ]
      refine ⟨_, _, rfl, by simp, ?_⟩
      simp only
      repeat' (first | refine AW.seq ?_ | ((first | refine AW.reg (by rfl) ?_ | refine AW.skip ?_ | refine AW.ret ?_ | refine AW.exit ?_); simp only [undef, aops, aop, acall, ev, ofValue, put_some, put_none, AThen, ABlock, APost, ares, oneOrTup, upd_get, entry_get, guardOf, Nat.reduceEqDiff, ↓reduceIte, List.getD_cons_zero, List.getD_cons_succ, List.getD_nil, abuild, abuildSlice, parts, zcells, Value.cells, afill, cells_agg, cells_v, cells_sl, cells_rp, cells_ifc, cells_mp, mkIfc, splice, List.map_cons, List.map_nil, List.length_cons, List.length_nil, List.take_succ_cons, List.take_zero, List.drop_succ_cons, List.drop_zero, List.take_nil, List.drop_nil, List.nil_append, List.cons_append, List.append_nil, List.getElem?_cons_zero, List.getElem?_cons_succ, List.all_cons, List.all_nil, one_v, one_sl, one_rp, one_ifc, one_mp, one_agg, Value.oneCell', Bool.and_self, Bool.and_true, Bool.true_and, true_and, and_true, Nat.reduceAdd, Nat.reduceLeDiff, Nat.reduceMul, Nat.zero_add, Nat.add_zero, Nat.le_refl, Nat.zero_le, aload, astore, abox, aalloc, abin, aint, ashift, apick, anil, anils, isNilC, aun, aconvInt, arange, anext, aentry, aassertAny, aassert2, anilm, aifeq, ainvoke, ne_eq, not_true_eq_false, not_false_eq_true, afieldAddr, afield, apart, rpart, aindexAddr, aindex, alen, aextract, aassert, amakeFunc, amakeSlice, amakeMap, alookup, amapUpdate, adelete, acopy, acopySrc, srcOf, aappend, bcells_eq, bcellsR, mcells_one, mcells_zero, List.length_replicate, List.size_toArray, Int.cast_ofNat_Int, Int.one_mul, Int.reduceToNat, Int.reduceLT, Int.reduceLE, Int.reduceMul, Int.reduceAdd, Int.reduceSub, Int.reduceNeg, Int.reduceEq, Nat.reduceLT, Nat.reduceSub, flats, amax, amin, aslice, abounds, optInt, Option.map_some, Option.map_none, Option.getD_some, Option.getD_none, Option.bind_some, Option.bind_none, Option.isSome_some, Option.isSome_none, false_imp_iff, hp_get_nil, hp_get_cons, hp_del_nil, hp_del_cons, hp_notin_nil, hp_notin_cons, hp_set_out, hp_get_out, hp_del_out, and_imp, hp_set_nil, hp_set_cons, List.map_toArray, Array.toList_map, reduceCtorEq, false_and, and_false, if_true, if_false, Bool.false_eq_true, Bool.not_true, Bool.not_false, decide_true, decide_false, implies_true, forall_const, List.length_map, qops, qop, exists_eq_left', exists_eq_left, and_assoc, exists_and_left, Int.toNat_natCast, Int.natCast_nonneg, Nat.mul_one, agg_3, zero_23, zero_29, iface_29, issl_29, isptr_29, cmp_71, agg_23, agg_29, field_77_2, agg_75, zero_88, agg_88, field_88_0, iface_3, issl_3, isptr_3, field_88_1, field_77_1, agg_74, map_74, Try.results21, e0,e3,e4,e5,optC_one,h43,h54,h53,Ne.symm h43,Ne.symm h54,Ne.symm h53,hp5,hp4,hp3,Ne.symm hp5,Ne.symm hp4,Ne.symm hp3,h8p,h85,h84,h83,Ne.symm h8p,Ne.symm h85,Ne.symm h84,Ne.symm h83,hq8,hqp,hq5,hq4,hq3,Ne.symm hq8,Ne.symm hqp,Ne.symm hq5,Ne.symm hq4,Ne.symm hq3]) | refine AW.block ?_ | with_reducible refine AW.condT rfl ?_ | with_reducible refine AW.condF rfl ?_)
      rw [hK']
      refine ⟨q, cap, _, h64, hmx, rfl, rfl, ?_⟩
      have : readC at_ es ps = Mac.blk (ps[i].2.getD []) := by
        unfold readC
        rw [lastC_take (fun j hj hij => hno j hj (by omega)) hlt he]
      rw [this, Nat.mul_one]
      exact .cons_cons _ (List.nil_sublist _)
    · have hd : (ps[i].1 == at_) = false := by simpa using he
      have hd2 : decide (ps[i].1 = at_) = false := by simpa using he
      repeat' (first | refine AW.seq ?_ | ((first | refine AW.reg (by rfl) ?_ | refine AW.skip ?_ | refine AW.ret ?_ | refine AW.exit ?_); simp only [undef, aops, aop, acall, ev, ofValue, put_some, put_none, AThen, ABlock, APost, ares, oneOrTup, upd_get, entry_get, guardOf, Nat.reduceEqDiff, ↓reduceIte, List.getD_cons_zero, List.getD_cons_succ, List.getD_nil, abuild, abuildSlice, parts, zcells, Value.cells, afill, cells_agg, cells_v, cells_sl, cells_rp, cells_ifc, cells_mp, mkIfc, splice, List.map_cons, List.map_nil, List.length_cons, List.length_nil, List.take_succ_cons, List.take_zero, List.drop_succ_cons, List.drop_zero, List.take_nil, List.drop_nil, List.nil_append, List.cons_append, List.append_nil, List.getElem?_cons_zero, List.getElem?_cons_succ, List.all_cons, List.all_nil, one_v, one_sl, one_rp, one_ifc, one_mp, one_agg, Value.oneCell', Bool.and_self, Bool.and_true, Bool.true_and, true_and, and_true, Nat.reduceAdd, Nat.reduceLeDiff, Nat.reduceMul, Nat.zero_add, Nat.add_zero, Nat.le_refl, Nat.zero_le, aload, astore, abox, aalloc, abin, aint, ashift, apick, anil, anils, isNilC, aun, aconvInt, arange, anext, aentry, aassertAny, aassert2, anilm, aifeq, ainvoke, ne_eq, not_true_eq_false, not_false_eq_true, afieldAddr, afield, apart, rpart, aindexAddr, aindex, alen, aextract, aassert, amakeFunc, amakeSlice, amakeMap, alookup, amapUpdate, adelete, acopy, acopySrc, srcOf, aappend, bcells_eq, bcellsR, mcells_one, mcells_zero, List.length_replicate, List.size_toArray, Int.cast_ofNat_Int, Int.one_mul, Int.reduceToNat, Int.reduceLT, Int.reduceLE, Int.reduceMul, Int.reduceAdd, Int.reduceSub, Int.reduceNeg, Int.reduceEq, Nat.reduceLT, Nat.reduceSub, flats, amax, amin, aslice, abounds, optInt, Option.map_some, Option.map_none, Option.getD_some, Option.getD_none, Option.bind_some, Option.bind_none, Option.isSome_some, Option.isSome_none, false_imp_iff, hp_get_nil, hp_get_cons, hp_del_nil, hp_del_cons, hp_notin_nil, hp_notin_cons, hp_set_out, hp_get_out, hp_del_out, and_imp, hp_set_nil, hp_set_cons, List.map_toArray, Array.toList_map, reduceCtorEq, false_and, and_false, if_true, if_false, Bool.false_eq_true, Bool.not_true, Bool.not_false, decide_true, decide_false, implies_true, forall_const, List.length_map, qops, qop, exists_eq_left', exists_eq_left, and_assoc, exists_and_left, Int.toNat_natCast, Int.natCast_nonneg, Nat.mul_one, agg_3, zero_23, zero_29, iface_29, issl_29, isptr_29, cmp_71, agg_23, agg_29, field_77_2, agg_75, zero_88, agg_88, field_88_0, iface_3, issl_3, isptr_3, field_88_1, field_77_1, agg_74, map_74, Try.results21, e0,e3,e4,e5,optC_one,h43,h54,h53,Ne.symm h43,Ne.symm h54,Ne.symm h53,hp5,hp4,hp3,Ne.symm hp5,Ne.symm hp4,Ne.symm hp3,h8p,h85,h84,h83,Ne.symm h8p,Ne.symm h85,Ne.symm h84,Ne.symm h83,hd,hd2]) | refine AW.block ?_ | with_reducible refine AW.condT rfl ?_ | with_reducible refine AW.condF rfl ?_)
      simp only [YEnd]
      try simp only [undef, aops, aop, acall, ev, ofValue, put_some, put_none, AThen, ABlock, APost, ares, oneOrTup, upd_get, entry_get, guardOf, Nat.reduceEqDiff, ↓reduceIte, List.getD_cons_zero, List.getD_cons_succ, List.getD_nil, abuild, abuildSlice, parts, zcells, Value.cells, afill, cells_agg, cells_v, cells_sl, cells_rp, cells_ifc, cells_mp, mkIfc, splice, List.map_cons, List.map_nil, List.length_cons, List.length_nil, List.take_succ_cons, List.take_zero, List.drop_succ_cons, List.drop_zero, List.take_nil, List.drop_nil, List.nil_append, List.cons_append, List.append_nil, List.getElem?_cons_zero, List.getElem?_cons_succ, List.all_cons, List.all_nil, one_v, one_sl, one_rp, one_ifc, one_mp, one_agg, Value.oneCell', Bool.and_self, Bool.and_true, Bool.true_and, true_and, and_true, Nat.reduceAdd, Nat.reduceLeDiff, Nat.reduceMul, Nat.zero_add, Nat.add_zero, Nat.le_refl, Nat.zero_le, aload, astore, abox, aalloc, abin, aint, ashift, apick, anil, anils, isNilC, aun, aconvInt, arange, anext, aentry, aassertAny, aassert2, anilm, aifeq, ainvoke, ne_eq, not_true_eq_false, not_false_eq_true, afieldAddr, afield, apart, rpart, aindexAddr, aindex, alen, aextract, aassert, amakeFunc, amakeSlice, amakeMap, alookup, amapUpdate, adelete, acopy, acopySrc, srcOf, aappend, bcells_eq, bcellsR, mcells_one, mcells_zero, List.length_replicate, List.size_toArray, Int.cast_ofNat_Int, Int.one_mul, Int.reduceToNat, Int.reduceLT, Int.reduceLE, Int.reduceMul, Int.reduceAdd, Int.reduceSub, Int.reduceNeg, Int.reduceEq, Nat.reduceLT, Nat.reduceSub, flats, amax, amin, aslice, abounds, optInt, Option.map_some, Option.map_none, Option.getD_some, Option.getD_none, Option.bind_some, Option.bind_none, Option.isSome_some, Option.isSome_none, false_imp_iff, hp_get_nil, hp_get_cons, hp_del_nil, hp_del_cons, hp_notin_nil, hp_notin_cons, hp_set_out, hp_get_out, hp_del_out, and_imp, hp_set_nil, hp_set_cons, List.map_toArray, Array.toList_map, reduceCtorEq, false_and, and_false, if_true, if_false, Bool.false_eq_true, Bool.not_true, Bool.not_false, decide_true, decide_false, implies_true, forall_const, List.length_map, qops, qop, exists_eq_left', exists_eq_left, and_assoc, exists_and_left, Int.toNat_natCast, Int.natCast_nonneg, Nat.mul_one, agg_75, elem_75, arr_75, str_75, ismap_75, agg_88, Try.results62, f0,f1,f3]
      repeat' (first | refine AW.seq ?_ | ((first | refine AW.reg (by rfl) ?_ | refine AW.skip ?_ | refine AW.ret ?_ | refine AW.exit ?_); simp only [undef, aops, aop, acall, ev, ofValue, put_some, put_none, AThen, ABlock, APost, ares, oneOrTup, upd_get, entry_get, guardOf, Nat.reduceEqDiff, ↓reduceIte, List.getD_cons_zero, List.getD_cons_succ, List.getD_nil, abuild, abuildSlice, parts, zcells, Value.cells, afill, cells_agg, cells_v, cells_sl, cells_rp, cells_ifc, cells_mp, mkIfc, splice, List.map_cons, List.map_nil, List.length_cons, List.length_nil, List.take_succ_cons, List.take_zero, List.drop_succ_cons, List.drop_zero, List.take_nil, List.drop_nil, List.nil_append, List.cons_append, List.append_nil, List.getElem?_cons_zero, List.getElem?_cons_succ, List.all_cons, List.all_nil, one_v, one_sl, one_rp, one_ifc, one_mp, one_agg, Value.oneCell', Bool.and_self, Bool.and_true, Bool.true_and, true_and, and_true, Nat.reduceAdd, Nat.reduceLeDiff, Nat.reduceMul, Nat.zero_add, Nat.add_zero, Nat.le_refl, Nat.zero_le, aload, astore, abox, aalloc, abin, aint, ashift, apick, anil, anils, isNilC, aun, aconvInt, arange, anext, aentry, aassertAny, aassert2, anilm, aifeq, ainvoke, ne_eq, not_true_eq_false, not_false_eq_true, afieldAddr, afield, apart, rpart, aindexAddr, aindex, alen, aextract, aassert, amakeFunc, amakeSlice, amakeMap, alookup, amapUpdate, adelete, acopy, acopySrc, srcOf, aappend, bcells_eq, bcellsR, mcells_one, mcells_zero, List.length_replicate, List.size_toArray, Int.cast_ofNat_Int, Int.one_mul, Int.reduceToNat, Int.reduceLT, Int.reduceLE, Int.reduceMul, Int.reduceAdd, Int.reduceSub, Int.reduceNeg, Int.reduceEq, Nat.reduceLT, Nat.reduceSub, flats, amax, amin, aslice, abounds, optInt, Option.map_some, Option.map_none, Option.getD_some, Option.getD_none, Option.bind_some, Option.bind_none, Option.isSome_some, Option.isSome_none, false_imp_iff, hp_get_nil, hp_get_cons, hp_del_nil, hp_del_cons, hp_notin_nil, hp_notin_cons, hp_set_out, hp_get_out, hp_del_out, and_imp, hp_set_nil, hp_set_cons, List.map_toArray, Array.toList_map, reduceCtorEq, false_and, and_false, if_true, if_false, Bool.false_eq_true, Bool.not_true, Bool.not_false, decide_true, decide_false, implies_true, forall_const, List.length_map, qops, qop, exists_eq_left', exists_eq_left, and_assoc, exists_and_left, Int.toNat_natCast, Int.natCast_nonneg, Nat.mul_one, agg_75, elem_75, arr_75, str_75, ismap_75, agg_88, Try.results62, f0,f1,f3]) | refine AW.block ?_ | with_reducible refine AW.condT rfl ?_ | with_reducible refine AW.condF rfl ?_)
      rw [hH]
      refine ⟨i, _, by omega, ?_, ?_, i, by omega, by rw [hS0], rfl, ?_, ?_, ?_, fun j hj hij => ?_⟩
      · intro x hx
        simp only [List.mem_cons, List.not_mem_nil, or_false] at hx ⊢
        rcases hx with rfl | rfl | rfl | rfl | rfl <;> simp
      · exact hnd
      · simp [upd_get, f0]
      · simp [upd_get, f1]
      · simp only [upd_get, if_true]
        have : IntKind.i64.wrap (((i + 1 : Nat) : Int) - 1 - 1) = (i : Int) - 1 := by rw [wrap_i64 (by omega) (by omega)]; omega
        rw [this]
      · rcases Nat.lt_or_ge i j with h1 | h1
        · exact hno j hj (by omega)
        · have : j = i := by omega
          subst this; exact he
theorem read_err (rm at_ : Int) (h : at_ < 0 ∨ 1073741824 < at_) (x y : AV) (hy : y.isAgg = false) :
    Meets Try.prog 21 [.rp (.agg [.v (.int .i64 rm), x, y]), .v (.int .i64 at_)] [] (fun r t => r = .tup [.v (.slice none 0 0), .ifc 115 (.agg [.v (.string ⟨#[98,108,111,99,107]⟩), .v (.int .i64 at_), .v (.iface 71 (.int .i64 2))])]) := by
  obtain ⟨K', hK'⟩ : ∃ K' : AV → Hp → Prop, K' = (fun r t => r = .tup [.v (.slice none 0 0), .ifc 115 (.agg [.v (.string ⟨#[98,108,111,99,107]⟩), .v (.int .i64 at_), .v (.iface 71 (.int .i64 2))])]) := ⟨_, rfl⟩
  rw [← hK']
  refine Meets.body Try.func21 rfl rfl (by simp [Try.ntmps21]) ?_
  repeat' (first | refine AW.seq ?_ | ((first | refine AW.reg (by rfl) ?_ | refine AW.skip ?_ | refine AW.ret ?_ | refine AW.exit ?_); simp only [undef, aops, aop, acall, ev, ofValue, put_some, put_none, AThen, ABlock, APost, ares, oneOrTup, upd_get, entry_get, guardOf, Nat.reduceEqDiff, ↓reduceIte, List.getD_cons_zero, List.getD_cons_succ, List.getD_nil, abuild, abuildSlice, parts, zcells, Value.cells, afill, cells_agg, cells_v, cells_sl, cells_rp, cells_ifc, cells_mp, mkIfc, splice, List.map_cons, List.map_nil, List.length_cons, List.length_nil, List.take_succ_cons, List.take_zero, List.drop_succ_cons, List.drop_zero, List.take_nil, List.drop_nil, List.nil_append, List.cons_append, List.append_nil, List.getElem?_cons_zero, List.getElem?_cons_succ, List.all_cons, List.all_nil, one_v, one_sl, one_rp, one_ifc, one_mp, one_agg, Value.oneCell', Bool.and_self, Bool.and_true, Bool.true_and, true_and, and_true, Nat.reduceAdd, Nat.reduceLeDiff, Nat.reduceMul, Nat.zero_add, Nat.add_zero, Nat.le_refl, Nat.zero_le, aload, astore, abox, aalloc, abin, aint, ashift, apick, anil, anils, isNilC, aun, aconvInt, arange, anext, aentry, aassertAny, aassert2, anilm, aifeq, ainvoke, ne_eq, not_true_eq_false, not_false_eq_true, afieldAddr, afield, apart, rpart, aindexAddr, aindex, alen, aextract, aassert, amakeFunc, amakeSlice, amakeMap, alookup, amapUpdate, adelete, acopy, acopySrc, srcOf, aappend, bcells_eq, bcellsR, mcells_one, mcells_zero, List.length_replicate, List.size_toArray, Int.cast_ofNat_Int, Int.one_mul, Int.reduceToNat, Int.reduceLT, Int.reduceLE, Int.reduceMul, Int.reduceAdd, Int.reduceSub, Int.reduceNeg, Int.reduceEq, Nat.reduceLT, Nat.reduceSub, flats, amax, amin, aslice, abounds, optInt, Option.map_some, Option.map_none, Option.getD_some, Option.getD_none, Option.bind_some, Option.bind_none, Option.isSome_some, Option.isSome_none, false_imp_iff, hp_get_nil, hp_get_cons, hp_del_nil, hp_del_cons, hp_notin_nil, hp_notin_cons, hp_set_out, hp_get_out, hp_del_out, and_imp, hp_set_nil, hp_set_cons, List.map_toArray, Array.toList_map, reduceCtorEq, false_and, and_false, if_true, if_false, Bool.false_eq_true, Bool.not_true, Bool.not_false, decide_true, decide_false, implies_true, forall_const, List.length_map, qops, qop, exists_eq_left', exists_eq_left, and_assoc, exists_and_left, Int.toNat_natCast, Int.natCast_nonneg, Nat.mul_one, agg_3, zero_23, zero_29, iface_29, issl_29, isptr_29, cmp_71, agg_23, agg_29, field_77_2, agg_75, zero_88, agg_88, field_88_0, iface_3, issl_3, isptr_3, field_88_1, field_77_1, agg_74, map_74, Try.results21, rpart]) | refine AW.block ?_ | with_reducible refine AW.condT rfl ?_ | with_reducible refine AW.condF rfl ?_)
  intro b3 b4 h43 b5 h54 h53
  repeat' (first | refine AW.seq ?_ | ((first | refine AW.reg (by rfl) ?_ | refine AW.skip ?_ | refine AW.ret ?_ | refine AW.exit ?_); simp only [undef, aops, aop, acall, ev, ofValue, put_some, put_none, AThen, ABlock, APost, ares, oneOrTup, upd_get, entry_get, guardOf, Nat.reduceEqDiff, ↓reduceIte, List.getD_cons_zero, List.getD_cons_succ, List.getD_nil, abuild, abuildSlice, parts, zcells, Value.cells, afill, cells_agg, cells_v, cells_sl, cells_rp, cells_ifc, cells_mp, mkIfc, splice, List.map_cons, List.map_nil, List.length_cons, List.length_nil, List.take_succ_cons, List.take_zero, List.drop_succ_cons, List.drop_zero, List.take_nil, List.drop_nil, List.nil_append, List.cons_append, List.append_nil, List.getElem?_cons_zero, List.getElem?_cons_succ, List.all_cons, List.all_nil, one_v, one_sl, one_rp, one_ifc, one_mp, one_agg, Value.oneCell', Bool.and_self, Bool.and_true, Bool.true_and, true_and, and_true, Nat.reduceAdd, Nat.reduceLeDiff, Nat.reduceMul, Nat.zero_add, Nat.add_zero, Nat.le_refl, Nat.zero_le, aload, astore, abox, aalloc, abin, aint, ashift, apick, anil, anils, isNilC, aun, aconvInt, arange, anext, aentry, aassertAny, aassert2, anilm, aifeq, ainvoke, ne_eq, not_true_eq_false, not_false_eq_true, afieldAddr, afield, apart, rpart, aindexAddr, aindex, alen, aextract, aassert, amakeFunc, amakeSlice, amakeMap, alookup, amapUpdate, adelete, acopy, acopySrc, srcOf, aappend, bcells_eq, bcellsR, mcells_one, mcells_zero, List.length_replicate, List.size_toArray, Int.cast_ofNat_Int, Int.one_mul, Int.reduceToNat, Int.reduceLT, Int.reduceLE, Int.reduceMul, Int.reduceAdd, Int.reduceSub, Int.reduceNeg, Int.reduceEq, Nat.reduceLT, Nat.reduceSub, flats, amax, amin, aslice, abounds, optInt, Option.map_some, Option.map_none, Option.getD_some, Option.getD_none, Option.bind_some, Option.bind_none, Option.isSome_some, Option.isSome_none, false_imp_iff, hp_get_nil, hp_get_cons, hp_del_nil, hp_del_cons, hp_notin_nil, hp_notin_cons, hp_set_out, hp_get_out, hp_del_out, and_imp, hp_set_nil, hp_set_cons, List.map_toArray, Array.toList_map, reduceCtorEq, false_and, and_false, if_true, if_false, Bool.false_eq_true, Bool.not_true, Bool.not_false, decide_true, decide_false, implies_true, forall_const, List.length_map, qops, qop, exists_eq_left', exists_eq_left, and_assoc, exists_and_left, Int.toNat_natCast, Int.natCast_nonneg, Nat.mul_one, agg_3, zero_23, zero_29, iface_29, issl_29, isptr_29, cmp_71, agg_23, agg_29, field_77_2, agg_75, zero_88, agg_88, field_88_0, iface_3, issl_3, isptr_3, field_88_1, field_77_1, agg_74, map_74, Try.results21, rpart,h43,h54,h53,Ne.symm h43,Ne.symm h54,Ne.symm h53]) | refine AW.block ?_ | with_reducible refine AW.condT rfl ?_ | with_reducible refine AW.condF rfl ?_)
  refine right_av_no at_ h _ _ ?_
  try simp only [undef, aops, aop, acall, ev, ofValue, put_some, put_none, AThen, ABlock, APost, ares, oneOrTup, upd_get, entry_get, guardOf, Nat.reduceEqDiff, ↓reduceIte, List.getD_cons_zero, List.getD_cons_succ, List.getD_nil, abuild, abuildSlice, parts, zcells, Value.cells, afill, cells_agg, cells_v, cells_sl, cells_rp, cells_ifc, cells_mp, mkIfc, splice, List.map_cons, List.map_nil, List.length_cons, List.length_nil, List.take_succ_cons, List.take_zero, List.drop_succ_cons, List.drop_zero, List.take_nil, List.drop_nil, List.nil_append, List.cons_append, List.append_nil, List.getElem?_cons_zero, List.getElem?_cons_succ, List.all_cons, List.all_nil, one_v, one_sl, one_rp, one_ifc, one_mp, one_agg, Value.oneCell', Bool.and_self, Bool.and_true, Bool.true_and, true_and, and_true, Nat.reduceAdd, Nat.reduceLeDiff, Nat.reduceMul, Nat.zero_add, Nat.add_zero, Nat.le_refl, Nat.zero_le, aload, astore, abox, aalloc, abin, aint, ashift, apick, anil, anils, isNilC, aun, aconvInt, arange, anext, aentry, aassertAny, aassert2, anilm, aifeq, ainvoke, ne_eq, not_true_eq_false, not_false_eq_true, afieldAddr, afield, apart, rpart, aindexAddr, aindex, alen, aextract, aassert, amakeFunc, amakeSlice, amakeMap, alookup, amapUpdate, adelete, acopy, acopySrc, srcOf, aappend, bcells_eq, bcellsR, mcells_one, mcells_zero, List.length_replicate, List.size_toArray, Int.cast_ofNat_Int, Int.one_mul, Int.reduceToNat, Int.reduceLT, Int.reduceLE, Int.reduceMul, Int.reduceAdd, Int.reduceSub, Int.reduceNeg, Int.reduceEq, Nat.reduceLT, Nat.reduceSub, flats, amax, amin, aslice, abounds, optInt, Option.map_some, Option.map_none, Option.getD_some, Option.getD_none, Option.bind_some, Option.bind_none, Option.isSome_some, Option.isSome_none, false_imp_iff, hp_get_nil, hp_get_cons, hp_del_nil, hp_del_cons, hp_notin_nil, hp_notin_cons, hp_set_out, hp_get_out, hp_del_out, and_imp, hp_set_nil, hp_set_cons, List.map_toArray, Array.toList_map, reduceCtorEq, false_and, and_false, if_true, if_false, Bool.false_eq_true, Bool.not_true, Bool.not_false, decide_true, decide_false, implies_true, forall_const, List.length_map, qops, qop, exists_eq_left', exists_eq_left, and_assoc, exists_and_left, Int.toNat_natCast, Int.natCast_nonneg, Nat.mul_one, agg_3, zero_23, zero_29, iface_29, issl_29, isptr_29, cmp_71, agg_23, agg_29, field_77_2, agg_75, zero_88, agg_88, field_88_0, iface_3, issl_3, isptr_3, field_88_1, field_77_1, agg_74, map_74, Try.results21, rpart,h43,h54,h53,Ne.symm h43,Ne.symm h54,Ne.symm h53]
  repeat' (first | refine AW.seq ?_ | ((first | refine AW.reg (by rfl) ?_ | refine AW.skip ?_ | refine AW.ret ?_ | refine AW.exit ?_); simp only [undef, aops, aop, acall, ev, ofValue, put_some, put_none, AThen, ABlock, APost, ares, oneOrTup, upd_get, entry_get, guardOf, Nat.reduceEqDiff, ↓reduceIte, List.getD_cons_zero, List.getD_cons_succ, List.getD_nil, abuild, abuildSlice, parts, zcells, Value.cells, afill, cells_agg, cells_v, cells_sl, cells_rp, cells_ifc, cells_mp, mkIfc, splice, List.map_cons, List.map_nil, List.length_cons, List.length_nil, List.take_succ_cons, List.take_zero, List.drop_succ_cons, List.drop_zero, List.take_nil, List.drop_nil, List.nil_append, List.cons_append, List.append_nil, List.getElem?_cons_zero, List.getElem?_cons_succ, List.all_cons, List.all_nil, one_v, one_sl, one_rp, one_ifc, one_mp, one_agg, Value.oneCell', Bool.and_self, Bool.and_true, Bool.true_and, true_and, and_true, Nat.reduceAdd, Nat.reduceLeDiff, Nat.reduceMul, Nat.zero_add, Nat.add_zero, Nat.le_refl, Nat.zero_le, aload, astore, abox, aalloc, abin, aint, ashift, apick, anil, anils, isNilC, aun, aconvInt, arange, anext, aentry, aassertAny, aassert2, anilm, aifeq, ainvoke, ne_eq, not_true_eq_false, not_false_eq_true, afieldAddr, afield, apart, rpart, aindexAddr, aindex, alen, aextract, aassert, amakeFunc, amakeSlice, amakeMap, alookup, amapUpdate, adelete, acopy, acopySrc, srcOf, aappend, bcells_eq, bcellsR, mcells_one, mcells_zero, List.length_replicate, List.size_toArray, Int.cast_ofNat_Int, Int.one_mul, Int.reduceToNat, Int.reduceLT, Int.reduceLE, Int.reduceMul, Int.reduceAdd, Int.reduceSub, Int.reduceNeg, Int.reduceEq, Nat.reduceLT, Nat.reduceSub, flats, amax, amin, aslice, abounds, optInt, Option.map_some, Option.map_none, Option.getD_some, Option.getD_none, Option.bind_some, Option.bind_none, Option.isSome_some, Option.isSome_none, false_imp_iff, hp_get_nil, hp_get_cons, hp_del_nil, hp_del_cons, hp_notin_nil, hp_notin_cons, hp_set_out, hp_get_out, hp_del_out, and_imp, hp_set_nil, hp_set_cons, List.map_toArray, Array.toList_map, reduceCtorEq, false_and, and_false, if_true, if_false, Bool.false_eq_true, Bool.not_true, Bool.not_false, decide_true, decide_false, implies_true, forall_const, List.length_map, qops, qop, exists_eq_left', exists_eq_left, and_assoc, exists_and_left, Int.toNat_natCast, Int.natCast_nonneg, Nat.mul_one, agg_3, zero_23, zero_29, iface_29, issl_29, isptr_29, cmp_71, agg_23, agg_29, field_77_2, agg_75, zero_88, agg_88, field_88_0, iface_3, issl_3, isptr_3, field_88_1, field_77_1, agg_74, map_74, Try.results21, rpart,h43,h54,h53,Ne.symm h43,Ne.symm h54,Ne.symm h53]) | refine AW.block ?_ | with_reducible refine AW.condT rfl ?_ | with_reducible refine AW.condF rfl ?_)
  rw [hK']
end Go.Proofs.Ytddbfjgodbfaoaa.T

namespace Go.Mac
open Go Go.Eng Go.Pl Go.Proofs Go.Proofs.Ytddbfjgodbfaoaa.T
set_option linter.unusedVariables false
set_option linter.unusedSimpArgs false
theorem u8s : ∀ {xs : List LV}, xs.all isU8 = true → ∃ b : List Int, xs = bys b
  | [], _ => ⟨[], rfl⟩
  | x :: xs, h => by
    simp only [List.all_cons, Bool.and_eq_true] at h
    obtain ⟨b, rfl⟩ := u8s h.2
    cases x with
    | int k n =>
      cases k <;> simp [isU8] at h
      exact ⟨n :: b, rfl⟩
    | _ => simp [isU8] at h
/-- The pending writes, as they are told. -/
theorem pend_told (R : Inst) (at_ : Int) : ∀ {ps : List LV}, ps.all okW = true → ∃ pc : List (Int × Option (List Int)), instL R false ps = pc.map pC ∧ ps.map (toP R) = pc.map (fun x => (x.1, x.2.map cel)) ∧
    lastOf at_ ps = (lastC at_ pc).map (fun o => match o with | some b => LV.isl 1 (bys b) | none => .nils)
  | [], _ => ⟨[], by simp [instL], rfl, rfl⟩
  | x :: ps, h => by
    simp only [List.all_cons, Bool.and_eq_true] at h
    obtain ⟨pc, h1, h2, h3⟩ := pend_told R at_ h.2
    have hx := h.1
    unfold okW at hx
    split at hx
    · rename_i a
      refine ⟨(a, none) :: pc, ?_, ?_, ?_⟩
      · simp only [instL, List.map_cons, h1]
        simp [pC, optC, inst, instL]
      · simp [h2, toP]
      · simp only [lastOf, lastC, h3]
        cases lastC at_ pc with
        | some o => simp
        | none =>
          simp only [Option.map_none]
          split <;> simp
    · rename_i a y ys
      obtain ⟨b, hb⟩ := u8s hx
      refine ⟨(a, some b) :: pc, ?_, ?_, ?_⟩
      · simp only [instL, List.map_cons, h1]
        simp only [pC, optC, inst, instL]
        have : inst R false y :: instL R false ys = cel b := by
          rw [← cel_bys R false b, ← hb]; simp only [instL]
        rw [this]
      · simp only [List.map_cons, h2]
        simp only [toP, Option.map_some]
        rw [hb, cel_bys]
      · simp only [lastOf, lastC, h3]
        cases lastC at_ pc with
        | some o => simp
        | none =>
          simp only [Option.map_none]
          split
          · simp [hb]
          · simp
    · simp at hx
theorem blk_pad (b : List Int) : (b ++ List.replicate 64 0).take 64 = blk b := by
  unfold blk spliceI
  rcases Nat.lt_or_ge b.length 64 with h | h
  · rw [Nat.min_eq_left (by omega), List.take_of_length_le (Nat.le_refl _), List.take_append, List.take_of_length_le (by omega), List.take_replicate, List.take_zero, List.nil_append, Nat.zero_add, List.drop_replicate, Nat.min_eq_left (by omega)]
  · rw [Nat.min_eq_right h, List.take_append_of_le_length h, List.take_zero, List.nil_append, Nat.zero_add, List.length_take, Nat.min_eq_left h, List.drop_replicate]
    simp
theorem pad_isl (b : List Int) : pad64 (.isl 1 (bys b)) = .isl 1 (bys (blk b)) := by
  rw [← blk_pad]
  simp [pad64, bys]
theorem pad_nils : pad64 .nils = .isl 1 (bys (blk [])) := by
  rw [← blk_pad]
  simp [pad64, bys]
theorem map_told (R : Inst) : ∀ (es : List (Int × AV)), (∀ p ∈ es, ∃ b, p.2 = .sl 1 (cel b)) → ∃ ec, es = mC ec
  | [], _ => ⟨[], rfl⟩
  | p :: es, h => by
    obtain ⟨ec, rfl⟩ := map_told R es (fun q hq => h q (List.mem_cons_of_mem _ hq))
    obtain ⟨b, hb⟩ := h p List.mem_cons_self
    refine ⟨(p.1, b) :: ec, ?_⟩
    obtain ⟨k, u⟩ := p
    simp only at hb
    subst hb
    rfl
theorem cel_inj : ∀ {a b : List Int}, cel a = cel b → a = b
  | [], [], _ => rfl
  | [], _ :: _, h => by simp [cel] at h
  | _ :: _, [], h => by simp [cel] at h
  | x :: a, y :: b, h => by
    simp only [cel, List.map_cons, List.cons.injEq] at h
    obtain ⟨h1, h2⟩ := h
    injection h1 with h1
    injection h1 with _ h1
    rw [h1, cel_inj (show cel a = cel b from h2)]
/-- What stands in a map whose values are bytes. -/
theorem kget_told {R : Inst} {ks : List Int} {vs : List LV} {ec : List (Int × List Int)} (hm : MapOk R (ks.zip vs) (mC ec)) (hv : vs.all okBs = true) (n : Int) : kget (ks.zip vs) n = (pget ec n).map fun b => LV.isl 1 (bys b) := by
  have h1 := hm.get n
  have h2 : Eng.mget (mC ec) n = (pget ec n).map (fun b => .sl 1 (cel b)) := mget_gmap _ _ _
  rw [h2] at h1
  cases hp : pget ec n with
  | none =>
    rw [hp] at h1
    cases hk : kget (ks.zip vs) n with
    | none => rfl
    | some x => rw [hk] at h1; simp at h1
  | some b =>
    rw [hp] at h1
    cases hk : kget (ks.zip vs) n with
    | none => rw [hk] at h1; simp at h1
    | some x =>
      rw [hk] at h1
      have hx : x ∈ vs := by
        have hmem : n ∈ (ks.zip vs).map (·.1) := by
          apply Classical.byContradiction
          intro hc
          rw [kget_none hc] at hk; simp at hk
        obtain ⟨y, hy1, hy2⟩ := kget_some hmem
        rw [hk] at hy1
        injection hy1 with hy1
        subst hy1
        exact (List.of_mem_zip hy2).2
      have ho := List.all_eq_true.1 hv x hx
      unfold okBs at ho
      split at ho
      · rename_i xs
        obtain ⟨b', rfl⟩ := u8s ho
        have : cel b = cel b' := by simpa [inst, cel_bys] using h1
        rw [cel_inj this]; rfl
      · simp at ho
theorem lm_read {as_ : List LV} {st st' : St} {v : LV} (h : xRead as_ st = some (v, st')) : LMeets Try.prog 21 as_ st v st' := by
  unfold xRead at h
  split at h
  case h_2 => simp at h
  rename_i b at_
  split at h
  case h_2 => simp at h
  rename_i e r ks vs el n ps hl
  split at h
  case isFalse => simp at h
  rename_i hc
  obtain ⟨he, hel, hn, hok, hlen, hvs⟩ := hc
  subst hel; subst hn
  intro R s hs hr
  obtain ⟨t1, t2, hob, _, hperm, _⟩ := hs.ents.focus hl
  obtain ⟨q, es, u3, s3, rfl, hm, h3⟩ := disk_lies hob
  have hb := disk_bor (b := b) (e := e) (r := r) (es := es) (q := q) hok h3
  have harg : ∀ I w xs, Rel I ((R.ρ b, .cells e [.v (.int .i64 r), .v (.map (some q)), u3] 3) :: (q, .imap .i64 es) :: s3) w → RVs I xs (instL R true [.ptr b 0, .int .i64 at_]) →
      RVs (I.with ((R.ρ b, .cells e [.v (.int .i64 r), .v (.map (some q)), u3] 3) :: (q, .imap .i64 es) :: s3) w) xs [.rp (.agg [.v (.int .i64 r), .mp .i64 es, .sl 2 ((ps.map (toP R)).map pAV)]), .v (.int .i64 at_)] := by
    intro I w xs hrel ha
    have ha' : RVs I xs (.v (.pointer (some ⟨R.ρ b, 0, none⟩)) :: [.v (.int .i64 at_)]) := by simpa [instL, inst] using ha
    exact rvs_box (vs := [.v (.int .i64 r), .mp .i64 es, .sl 2 ((ps.map (toP R)).map pAV)]) List.mem_cons_self (us := [.v (.int .i64 r), .v (.map (some q)), u3]) (by simp) hb hrel ha'
  split at h
  · -- out of range
    rename_i hat
    simp only [Option.some.injEq, Prod.mk.injEq] at h
    obtain ⟨rfl, rfl⟩ := h
    refine Meets.use _ t2 hperm.symm ?_
    refine Meets.borrow2 harg ((read_err r at_ hat _ _ rfl).mono ?_)
    rintro rr t rfl
    refine ⟨[], by simp, by simp [Hp.keys], rfl, by simp, ?_⟩
    refine ⟨R, s, Agree.refl _ _, Nat.le_refl _, ?_, ?_, HpWk.perm hperm.symm, hs⟩
    · simp only [inst, instL, mkIfc]
      exact Wk.refl _
    · simp [refs, refsL]
  · rename_i hat
    have hat2 : 0 ≤ at_ ∧ at_ ≤ 1073741824 := by omega
    obtain ⟨pc, hp1, hp2, hp3⟩ := pend_told R at_ hok
    obtain ⟨ec, rfl⟩ := map_told R es (fun p hp => by
      have := hm.perm.mem_iff.1 hp
      obtain ⟨y, hy, rfl⟩ := List.mem_map.1 this
      have hyv := (List.of_mem_zip (show (y.1, y.2) ∈ ks.zip vs from hy)).2
      have ho := List.all_eq_true.1 hvs _ hyv
      unfold okBs at ho
      split at ho
      · rename_i xs hxs
        obtain ⟨b', rfl⟩ := u8s ho
        refine ⟨b', ?_⟩
        simp only [hxs, inst, cel_bys]
      · simp at ho)
    have hpc : (ps.map (toP R)).map pAV = pc.map pC := by
      rw [hp2, List.map_map]
      apply List.map_congr_left
      rintro ⟨a, o⟩ _
      cases o <;> rfl
    have hkt := kget_told hm hvs at_
    -- what is read
    have hres : v = .tup [.isl 1 (bys (readC at_ ec pc)), .nili] ∧ st' = st := by
      rw [hp3, hkt] at h
      unfold readC
      cases hlc : lastC at_ pc with
      | some o =>
        rw [hlc] at h
        cases o with
        | some b' =>
          simp only [Option.map_some, pad_isl, Option.some.injEq, Prod.mk.injEq] at h
          exact ⟨h.1.symm, h.2.symm⟩
        | none =>
          simp only [Option.map_some, pad_nils, Option.some.injEq, Prod.mk.injEq] at h
          exact ⟨h.1.symm, h.2.symm⟩
      | none =>
        rw [hlc] at h
        simp only [Option.map_none] at h
        cases hpg : pget ec at_ with
        | some b' =>
          rw [hpg] at h
          simp only [Option.map_some, pad_isl, Option.some.injEq, Prod.mk.injEq] at h
          exact ⟨h.1.symm, h.2.symm⟩
        | none =>
          rw [hpg] at h
          simp only [Option.map_none, pad_nils, Option.some.injEq, Prod.mk.injEq] at h
          exact ⟨h.1.symm, h.2.symm⟩
    obtain ⟨rfl, rfl⟩ := hres
    refine Meets.froz ?_
    refine Meets.use _ t2 hperm.symm ?_
    rw [hpc] at harg
    have hpl : pc.length ≤ 1048576 := by
      have := congrArg List.length hp1
      rw [instL_eq, List.length_map, List.length_map] at this
      omega
    refine Meets.borrow2 harg ((read_av r at_ hat2 ec pc hpl).mono ?_)
    rintro rr t ⟨q', cap, t', h64, hmx, rfl, rfl, hsub⟩
    refine ⟨[(q', .cells 5 (cel (readC at_ ec pc)) (cap * 1))], fun p hp => hsub.subset hp, fun _ => by simp [Hp.keys], rfl, ?_, ?_⟩
    · intro p hp
      simp only [List.mem_singleton] at hp
      subst hp
      simp only [AObj.plain, List.all_eq_true]
      intro x hx
      unfold cel at hx
      obtain ⟨y, _, rfl⟩ := List.mem_map.1 hx
      rfl
    · intro hn
      have hlenr : (readC at_ ec pc).length = 64 := by
        unfold readC
        split <;> exact blk_length _
      have hkn : q' ∉ Hp.keys (((R.ρ b, AObj.cells e [.v (.int .i64 r), .v (.map (some q)), u3] 3) :: (q, .imap .i64 (mC ec)) :: s3) ++ t2) := (List.nodup_cons.1 hn).1
      refine ⟨[(q', .cells 5 (cel (readC at_ ec pc)) (cap * 1))], .tup [.sl 1 (cel (readC at_ ec pc)), .v .nilIface], _, fun p hp => by
        simp only [List.mem_singleton] at hp; subst hp; simp, ?_, .drop _ (.rest (fun k hk => by
          simp only [Hp.keys, List.map_cons, List.map_nil, List.mem_singleton]
          intro e; subst e; exact hkn hk)), ?_⟩
      · refine BorL.tup (.cons ?_ (.refl _ _))
        refine .row q' 0 64 cap 1 (cap * 1) 5 (cel (readC at_ ec pc)) (cel (readC at_ ec pc)) (by simp) ?_ h64 (by unfold big; omega) ?_ ?_
        · unfold cel; rw [List.length_map, hlenr]
        · intro i x hx
          unfold cel at hx
          rw [List.getElem?_map] at hx
          obtain ⟨y, _, rfl⟩ := Option.map_eq_some_iff.1 hx
          rfl
        · rw [cel_flat, List.drop_zero, List.take_of_length_le]
          unfold cel; rw [List.length_map, hlenr]; omega
      · refine ⟨R, s, Agree.refl _ _, Nat.le_refl _, ?_, by simp [refs, refsL], HpWk.perm hperm.symm, hs⟩
        simp only [inst, instL, cel_bys]
        exact Wk.refl _
end Go.Mac

namespace Go.Mac
open Go Go.Eng Go.Proofs
theorem extC0 : ExtSound Try.prog C0 := by
  intro f F h as_ st v st' hF
  simp only [C0] at h
  split at h
  · rename_i hf; subst hf; injection h with h; subst h; exact lm_mclone hF
  split at h
  · rename_i hf; subst hf; injection h with h; subst h; exact lm_needs hF
  split at h
  · rename_i hf; subst hf; injection h with h; subst h; exact lm_is hF
  split at h
  · rename_i hf; subst hf; injection h with h; subst h; exact lm_read hF
  · simp at h
end Go.Mac

namespace Go.Mac
open Go Go.Eng Go.Proofs Go.Proofs.Ytddbfjgodbfaoaa
set_option linter.unusedVariables false
theorem map_of {α : Type} {f : α → LV} {G : LV → Prop} (hG : ∀ x, G x → ∃ n, x = f n) : ∀ {xs : List LV}, (∀ x ∈ xs, G x) → ∃ l : List α, xs = l.map f
  | [], _ => ⟨[], rfl⟩
  | x :: xs, h => by
    obtain ⟨n, hn⟩ := hG x (h x (by simp))
    obtain ⟨l, hl⟩ := map_of hG (xs := xs) fun y hy => h y (by simp [hy])
    exact ⟨n :: l, by rw [hn, hl]; rfl⟩
def isBys (v : LV) : Prop := ∃ b : List Int, v = .isl 1 (bys b)
def isInts (v : LV) : Prop := ∃ b : List Int, v = .isl 1 (ints b)
theorem Rd.mono {H : Type} {enc : TypeId × Value → H} {P : Program} {R : Inst} {w : World} {t : TypeId} {G G' : LV → Prop} (h : Rd enc P R w t G) (hG : ∀ v, G v → G' v) : Rd enc P R w t G' := by
  intro base sp hd fuel cs x h1 h2
  obtain ⟨v, g, r⟩ := h base sp hd fuel cs x h1 h2
  exact ⟨v, hG v g, r⟩
section
variable {H : Type} {enc : TypeId × Value → H} {P : Program} {R : Inst} {w : World}
theorem Rd.bys {t e : TypeId} (ht : P.underlying t = some (.slice e)) (he : P.underlying e = some (.int .u8)) (hk : P.cellsOf e = 1) (hb : 0 < P.bytesOf e) : Rd enc P R w t isBys :=
  (Rd.slice ht hk (by omega) hb (Rd.int he) (by rintro v ⟨n, rfl, _⟩; rfl)).mono (by
    rintro v ⟨xs, rfl, h, _⟩
    obtain ⟨l, rfl⟩ := map_of (f := LV.int .u8) (by rintro x ⟨n, rfl, _⟩; exact ⟨n, rfl⟩) h
    exact ⟨l, rfl⟩)
theorem Rd.ints {t e : TypeId} (ht : P.underlying t = some (.slice e)) (he : P.underlying e = some (.int .i64)) (hk : P.cellsOf e = 1) (hb : 0 < P.bytesOf e) : Rd enc P R w t isInts :=
  (Rd.slice ht hk (by omega) hb (Rd.int he) (by rintro v ⟨n, rfl, _⟩; rfl)).mono (by
    rintro v ⟨xs, rfl, h, _⟩
    obtain ⟨l, rfl⟩ := map_of (f := LV.int .i64) (by rintro x ⟨n, rfl, _⟩; exact ⟨n, rfl⟩) h
    exact ⟨l, rfl⟩)
end
theorem own_seat : ownKnob Try.prog.godebug = none := by kernel_rfl
theorem laid_seat : laidOutB Try.prog = true := by kernel_rfl
theorem mixed_seat : Try.prog.follows .mixedOrders = true := by kernel_rfl
def isInt (k : IntKind) (v : LV) : Prop := ∃ n, v = .int k n
theorem Rd.i {H : Type} {enc : TypeId × Value → H} {P : Program} {R : Inst} {w : World} {t : TypeId} {k : IntKind} (ht : P.underlying t = some (.int k)) : Rd enc P R w t (isInt k) := (Rd.int ht).mono (by rintro v ⟨n, rfl, _⟩; exact ⟨n, rfl⟩)
end Go.Mac

namespace Go.Mac
open Go Go.Eng Go.Proofs Go.Proofs.Ytddbfjgodbfaoaa
set_option linter.unusedVariables false
set_option maxRecDepth 100000
theorem keep_lcall (l : List Act4) (v ks : List Int) (c : Int) : lcall Try.prog C0 201 3 [.isl 4 (opsL l), .isl 1 (bys v), .isl 1 (ints ks), .int .i64 c] ⟨0, []⟩ = some (.bool true, ⟨0, []⟩) := by
  have h := keep_ok 100 l v ks c works_slot
  have hr : refsL [LV.isl 4 (opsL l), .isl 1 (bys v), .isl 1 (ints ks), .int .i64 c] = [] := rfl
  have e : renL (fun b => ixOf [] b 0) [LV.isl 4 (opsL l), .isl 1 (bys v), .isl 1 (ints ks), .int .i64 c] = [LV.isl 4 (opsL l), .isl 1 (bys v), .isl 1 (ints ks), .int .i64 c] := rfl
  rw [← e] at h
  exact lcall_nil hr h
def isOps (v : LV) : Prop := ∃ l, v = .isl 4 (opsL l)
theorem Rd.op {H : Type} (enc : TypeId × Value → H) (W : World) : Rd enc Try.prog R0 W 36 (fun v => ∃ x, v = opL x) := by
  have I := Rd.i (enc := enc) (P := Try.prog) (R := R0) (w := W) (t := 3) (k := .i64) (by kernel_rfl)
  have B := Rd.bys (enc := enc) (P := Try.prog) (R := R0) (w := W) (t := 23) (e := 5) (by kernel_rfl) (by kernel_rfl) (by kernel_rfl) (Nat.le_of_ble_eq_true (by kernel_rfl))
  have N := Rd.ints (enc := enc) (P := Try.prog) (R := R0) (w := W) (t := 24) (e := 3) (by kernel_rfl) (by kernel_rfl) (by kernel_rfl) (Nat.le_of_ble_eq_true (by kernel_rfl))
  have hI : ∀ v, isInt .i64 v → lcells v = [v] := by rintro v ⟨n, rfl⟩; rfl
  have hB : ∀ v, isBys v → lcells v = [v] := by rintro v ⟨n, rfl⟩; rfl
  have hN : ∀ v, isInts v → lcells v = [v] := by rintro v ⟨n, rfl⟩; rfl
  refine (Rd.struct1 (Gs := [isInt .i64, isBys, isInts, isInt .i64]) Try.underlying36 (by kernel_rfl) rfl ?_).mono ?_
  · intro i f G hf hG
    match i, hf, hG with
    | 0, hf, hG => cases hf; cases hG; exact ⟨rfl, by kernel_rfl, I, hI⟩
    | 1, hf, hG => cases hf; cases hG; exact ⟨rfl, by kernel_rfl, B, hB⟩
    | 2, hf, hG => cases hf; cases hG; exact ⟨rfl, by kernel_rfl, N, hN⟩
    | 3, hf, hG => cases hf; cases hG; exact ⟨rfl, by kernel_rfl, I, hI⟩
    | i + 4, hf, hG => simp at hG
  · rintro v ⟨vs, rfl, hl, h⟩
    have hl : vs.length = 4 := hl
    match vs, hl with
    | [a, b, c, d], _ =>
      obtain ⟨k, rfl⟩ := h 0 a _ rfl rfl
      obtain ⟨b, rfl⟩ := h 1 b _ rfl rfl
      obtain ⟨s, rfl⟩ := h 2 c _ rfl rfl
      obtain ⟨u, rfl⟩ := h 3 d _ rfl rfl
      exact ⟨⟨k, b, s, u⟩, rfl⟩
theorem keep_params {H : Type} (enc : TypeId × Value → H) (W : World) : Params enc Try.prog R0 W Try.f3.params.toList [isOps, isBys, isInts, isInt .i64] := by
  rw [Try.params3]
  refine ⟨⟨ok1_slice (e := 36) (by kernel_rfl), ?_, by rintro u ⟨l, rfl⟩; rfl⟩, ⟨ok1_slice (e := 5) (by kernel_rfl), Rd.bys (e := 5) (by kernel_rfl) (by kernel_rfl) (by kernel_rfl) (Nat.le_of_ble_eq_true (by kernel_rfl)), by rintro u ⟨l, rfl⟩; rfl⟩,
    ⟨ok1_slice (e := 3) (by kernel_rfl), Rd.ints (e := 3) (by kernel_rfl) (by kernel_rfl) (by kernel_rfl) (Nat.le_of_ble_eq_true (by kernel_rfl)), by rintro u ⟨l, rfl⟩; rfl⟩, ⟨ok1_int (k := .i64) (by kernel_rfl), Rd.i (by kernel_rfl), by rintro u ⟨l, rfl⟩; rfl⟩, trivial⟩
  refine (Rd.slice (e := 36) (k := 4) (by kernel_rfl) (by kernel_rfl) (by omega) (Nat.le_of_ble_eq_true (by kernel_rfl)) (Rd.op enc W) (by rintro v ⟨b, rfl⟩; rfl)).mono ?_
  rintro v ⟨xs, rfl, h, _⟩
  obtain ⟨l, rfl⟩ := map_of (f := opL) (fun x h => h) h
  exact ⟨l, rfl⟩
theorem enter3 (vs : Array Value) (W : World) : (callFunc 3 vs).run Try.prog W = .ok (.enter 3 vs) W := by kernel_rfl
theorem keep_lifted (os : Os) (started : os.Started) (H : Type) (enc : TypeId × Value → H) :
    ReturnsInHanded {} Try.checked os 3 .any (Rows.slotKeepsSpec.pre6 enc Try.prog Try.f3 Rows.slotKeepsRow.domain false) (Rows.slotKeepsSpec.post enc Try.prog Try.f3 false true false false) :=
  lifted_of_lcall (K := Try.checked) (C := C0) (Gs := [isOps, isBys, isInts, isInt .i64]) (tb := 4) started own_seat laid_seat extC0 mixed_seat (by kernel_rfl) Try.func3 rfl
    (by rw [Try.params3]; exact of_decide_eq_true (by kernel_rfl)) (by kernel_rfl) (by kernel_rfl) (fun W => keep_params enc W)
    (fun xs h => by
      match xs, h with
      | [a, b, c, d], h =>
        obtain ⟨⟨l, rfl⟩, ⟨v, rfl⟩, ⟨ks, rfl⟩, ⟨u, rfl⟩, _⟩ := h
        exact ⟨201, keep_lcall l v ks u, rfl⟩)
    (fun ds h => by
      have h : ds.length = 4 := h
      match ds, h with
      | [d1, d2, d3, d4], _ => exact ⟨rfl, rfl, rfl⟩)
    enter3
    (ChangeSpec.witness6 (enc := enc) (C := Try.checked) false ⟨#[], #[.slice none 0 0, .slice none 0 0, .slice none 0 0, .int .i64 0], []⟩ 8 (by kernel_rfl) (by kernel_rfl) (by kernel_rfl) (by kernel_rfl))
theorem keep_over : Rows.slotKeepsRow.holds Try.pinned (OpenSpec.ofChange Rows.slotKeepsSpec) :=
  OpenClaim.holds_of_wide 3 Try.f3 rfl rfl rfl rfl rfl rfl rfl ⟨rfl, rfl, rfl, rfl, rfl⟩ rfl rfl rfl rfl rfl (by kernel_rfl) Try.func3 (by kernel_rfl)
    (of_decide_eq_true (by kernel_rfl)) (by unfold Func.isWrapper; first | (rw [if_pos (by decide +kernel)]; kernel_rfl) | (rw [if_neg (by decide +kernel)]; exact ⟨rfl, rfl⟩))
    (fun os started H enc _ => keep_lifted os started H enc)
end Go.Mac
namespace Go.Proofs.Ytddbfjgodbfaoaa
theorem slotKeeps_holds : Rows.SlotKeepsSaid := Go.Mac.keep_over
end Go.Proofs.Ytddbfjgodbfaoaa
