/-
 BlockDoes holds for every input: each call is answered, and the blocks are, as the reference says; the condition is the card's own.
-/
import Derived.Test.YtddbfjgodbfaoaaDoorBd3
import Derived.Test.YtddbfjgodbfaoaaDoorBd5
import Derived.Test.YtddbfjgodbfaoaaDoorBd7
import Derived.Test.YtddbfjgodbfaoaaDoorBd8
import Derived.KernelRfl
import Derived.Test.YtddbfjgodbfaoaaDoorRows
import Derived.ChangeSame
import Derived.ChangeVars
import Derived.RowKitTokens
import Derived.LaidLaws
import Derived.LaidHandle
import Derived.Stop.Joined
import Derived.Test.YtddbfjgodbfaoaaDoorTie
import Derived.Test.YtddbfjgodbfaoaaDoorCards
import Derived.SevenTiedAt
set_option linter.unusedVariables false
set_option linter.unusedSimpArgs false
namespace Go.Proofs.YtddbfjgodbfaoaaDoor.T
open Go Go.Eng Go.Proofs.YtddbfjgodbfaoaaDoor.Ty
theorem back_av (xs : List AV) (s : Hp) (K : AV → Hp → Prop) (hk : ∀ p, p ∉ s.keys → K (.v (.func (.func 56) #[] #[.pointer (some ⟨p, 0, none⟩)])) ((p, .cells 62 [.sl 2 xs] 1) :: s)) :
  Meets Tryd.prog 40 [.sl 2 xs] s K := by
 have h0 : Meets Tryd.prog 40 [.sl 2 xs] [] (fun r t => ∃ p, r = .v (.func (.func 56) #[] #[.pointer (some ⟨p, 0, none⟩)]) ∧ t = [(p, .cells 62 [.sl 2 xs] 1)]) := by
  obtain ⟨K', hK'⟩ : ∃ K' : AV → Hp → Prop, K' = (fun r t => ∃ p, r = .v (.func (.func 56) #[] #[.pointer (some ⟨p, 0, none⟩)]) ∧ t = [(p, .cells 62 [.sl 2 xs] 1)]) := ⟨_, rfl⟩
  rw [← hK']
  refine Meets.body Tryd.func40 rfl rfl (by simp [Tryd.ntmps40]) ?_
  repeat' (first | refine AW.seq ?_ | ((first | refine AW.reg (by rfl) ?_ | refine AW.skip ?_ | refine AW.ret ?_ | refine AW.exit ?_); simp only [undef, aops, aop, ev, ofValue, put_some, AThen, entry_get, List.getD_cons_zero, cells_sl, List.length_cons, List.length_nil, List.all_cons, List.all_nil, one_sl, Bool.and_self, true_and, Nat.zero_add, abox, hp_notin_nil, forall_const, Tryd.results40]) | refine AW.block ?_ | with_reducible refine AW.condT rfl ?_ | with_reducible refine AW.condF rfl ?_)
  intro p
  repeat' (first | refine AW.seq ?_ | ((first | refine AW.reg (by rfl) ?_ | refine AW.skip ?_ | refine AW.ret ?_ | refine AW.exit ?_); simp only [aops, aop, ev, put_some, AThen, APost, ares, oneOrTup, upd_get, Nat.reduceEqDiff, ↓reduceIte, List.map_cons, List.map_nil, amakeFunc, flats, Option.map_some]) | refine AW.block ?_ | with_reducible refine AW.condT rfl ?_ | with_reducible refine AW.condF rfl ?_)
  rw [hK']
  exact ⟨p, rfl, rfl⟩
 refine Meets.kn (Meets.frame (s := []) (t := s) (h0.mono ?_))
 rintro r t ⟨p, rfl, rfl⟩
 intro hn
 exact hk p (List.nodup_cons.1 hn).1
theorem read_av (rm at_ : Int) (h : 0 ≤ at_ ∧ at_ ≤ 1073741824) (es : List (Int × List Int)) (ps : List (Int × Option (List Int))) (hlen : ps.length ≤ 1048576) :
  Meets Tryd.prog 18 [.rp (.agg [.v (.int .i64 rm), .mp .i64 (mC es), .sl 2 (ps.map pC)]), .v (.int .i64 at_)] [] (fun r t => ∃ q cap t', 64 ≤ cap ∧ cap ≤ maxLen ∧ r = .tup [.v (.slice (some ⟨q, 0, none⟩) 64 cap), .v .nilIface] ∧ t' = [(q, .cells 5 (cel (readC at_ es ps)) (cap * 1))] ∧ t'.Sublist t) := by
 obtain ⟨K', hK'⟩ : ∃ K' : AV → Hp → Prop, K' = (fun r t => ∃ q cap t', 64 ≤ cap ∧ cap ≤ maxLen ∧ r = .tup [.v (.slice (some ⟨q, 0, none⟩) 64 cap), .v .nilIface] ∧ t' = [(q, .cells 5 (cel (readC at_ es ps)) (cap * 1))] ∧ t'.Sublist t) := ⟨_, rfl⟩
 rw [← hK']
 refine Meets.body Tryd.func18 rfl rfl (by simp [Tryd.ntmps18]) ?_
 repeat' (first | refine AW.seq ?_ | ((first | refine AW.reg (by rfl) ?_ | refine AW.skip ?_ | refine AW.ret ?_ | refine AW.exit ?_); simp only [undef, aops, aop, ev, put_some, AThen, entry_get, List.getD_cons_zero, List.getD_cons_succ, Value.cells, cells_v, List.map_cons, List.map_nil, List.length_cons, List.length_nil, List.all_cons, List.all_nil, one_v, Value.oneCell', Bool.and_self, true_and, and_true, Nat.zero_add, abox, aalloc, ne_eq, List.size_toArray, hp_notin_nil, hp_notin_cons, and_imp, forall_const, zero_38, zero_27, Tryd.results18]) | refine AW.block ?_ | with_reducible refine AW.condT rfl ?_ | with_reducible refine AW.condF rfl ?_)
 intro b3 b4 h43 b5 h54 h53
 repeat' (first | refine AW.seq ?_ | ((first | refine AW.reg (by rfl) ?_ | refine AW.skip ?_ | refine AW.ret ?_ | refine AW.exit ?_); simp only [aops, aop, acall, ev, put_some, AThen, upd_get, Nat.reduceEqDiff, ↓reduceIte, List.map_cons, List.map_nil, List.nil_append, List.append_nil, List.getElem?_cons_zero, aload, aloadG, gndFor, hp_get_cons, agg_3, h43,h53]) | refine AW.block ?_ | with_reducible refine AW.condT rfl ?_ | with_reducible refine AW.condF rfl ?_)
 refine right_av at_ h _ _ ?_
 skip
 repeat' (first | refine AW.seq ?_ | ((first | refine AW.reg (by rfl) ?_ | refine AW.skip ?_ | refine AW.ret ?_ | refine AW.exit ?_); simp only [undef, aops, aop, acall, ev, ofValue, put_some, AThen, upd_get, entry_get, ↓reduceIte, List.getD_cons_zero, List.map_cons, List.map_nil, List.nil_append, List.append_nil, List.getElem?_cons_zero, List.getElem?_cons_succ, true_and, aload, aloadG, gndFor, abin, anil, isNilC, afieldAddr, rpart, reduceCtorEq, Bool.not_true, iface_27, field_64_2, agg_62, rpart]) | refine AW.block ?_ | with_reducible refine AW.condT rfl ?_ | with_reducible refine AW.condF rfl ?_)
 refine ⟨rfl, ?_⟩
 refine back_av _ _ _ ?_
 intro p hp
 simp only [hp_notin_cons, hp_notin_nil, and_true] at hp
 obtain ⟨hp5, hp4, hp3⟩ := hp
 skip
 repeat' (first | refine AW.seq ?_ | refine AW.block ?_ | with_reducible refine AW.condT rfl ?_ | with_reducible refine AW.condF rfl ?_)
 refine AW.gen fun e hE => ?_
 have e0 : e 0 = .rp (.agg [.v (.int .i64 rm), .mp .i64 (mC es), .sl 2 (ps.map pC)]) := hE 0
 have e3 : e 3 = .v (.pointer (some ⟨b3, 0, none⟩)) := hE 3
 have e4 : e 4 = .v (.pointer (some ⟨b4, 0, none⟩)) := hE 4
 have e5 : e 5 = .v (.pointer (some ⟨b5, 0, none⟩)) := hE 5
 have e18 : e 18 = .v (.func (.func 56) #[] #[.pointer (some ⟨p, 0, none⟩)]) := hE 18
 clear hE
 refine AW.rangeFunc 56 #[] #[.pointer (some ⟨p, 0, none⟩)] e18 ⟨_, _, Tryd.func56, rfl, by kernel_rfl⟩ ?_
 intro l rec hl hr1 hr2 hr3 hr4 hr5
 simp only [hp_notin_cons, hp_notin_nil, and_true] at hl
 obtain ⟨hlp, hl5, hl4, hl3⟩ := hl
 refine Meets.nodup fun hnd => ?_
 generalize hQ : RfEnd _ _ _ _ _ _ = K2
 show Meets _ _ [.v (.func (.yield l) #[] #[]), .v (.pointer (some ⟨p, 0, none⟩))] _ _
 refine Meets.body Tryd.func56 rfl rfl (by simp [Tryd.ntmps56]) ?_
 repeat' (first | refine AW.seq ?_ | ((first | refine AW.reg (by rfl) ?_ | refine AW.skip ?_ | refine AW.ret ?_ | refine AW.exit ?_); simp only [undef, aops, aop, acall, ev, ofValue, put_some, AThen, upd_get, entry_get, ↓reduceIte, List.getD_cons_zero, List.getD_cons_succ, List.getElem?_cons_zero, true_and, aload, aloadG, gndFor, abin, aint, alen, hp_get_cons, List.length_map, agg_62, elem_62, Tryd.results56, hlp]) | refine AW.block ?_ | with_reducible refine AW.condT rfl ?_ | with_reducible refine AW.condF rfl ?_)
 have hlen2 : IntKind.i64.wrap ((ps.length : Int) - 1) = (ps.length : Int) - 1 := wrap_i64 (by omega) (by omega)
 obtain ⟨S0, hS0⟩ : ∃ S0 : Hp, S0 = [(p, .cells 62 [.sl 2 (ps.map pC)] 1), (b5, .cells 27 [.v .nilIface] 1), (b4, .cells 38 [.v (.slice none 0 0)] 1), (b3, .cells 3 [.v (.int .i64 at_)] 1)] := ⟨_, rfl⟩
 obtain ⟨H, hH⟩ : ∃ H : Nat → Env → Hp → Prop, H = fun mm e' st => ∃ (i : Nat), i ≤ ps.length ∧ st = (l, .lp rec Tryd.f18.ntmps e) :: S0 ∧ mm = i ∧ e' 0 = .v (.func (.yield l) #[] #[]) ∧ e' 1 = .v (.pointer (some ⟨p, 0, none⟩)) ∧ e' 3 = .v (.int .i64 ((i : Int) - 1)) ∧
   (∀ j (h : j < ps.length), i ≤ j → ps[j].1 ≠ at_) := ⟨_, rfl⟩
 refine (AW.loop H ps.length ?_ ?_)
 ·rw [hH, hS0]
  exact ⟨ps.length, Nat.le_refl _, rfl, rfl, rfl, rfl, by simp only [upd_get]; rw [if_pos trivial, hlen2], fun j h hj => absurd hj (by omega)⟩
 intro mm e' st hst
 rw [hH] at hst
 obtain ⟨i, hi, rfl, rfl, f0, f1, f3, hno⟩ := hst
 cases mm with
 | zero =>
  have hge : decide (0 ≤ ((0 : Nat) : Int) - 1) = false := by simp
  repeat' (first | refine AW.seq ?_ | ((first | refine AW.reg (by rfl) ?_ | refine AW.skip ?_ | refine AW.ret ?_ | refine AW.exit ?_); simp only [aops, aop, ev, ofValue, put_some, AThen, ABlock, APost, ares, upd_get, ↓reduceIte, true_and, abin, aint, Int.cast_ofNat_Int, Int.reduceLE, Int.reduceSub, Int.reduceNeg, decide_false, f3]) | refine AW.block ?_ | with_reducible refine AW.condT rfl ?_ | with_reducible refine AW.condF rfl ?_)
  rw [← hQ]
  refine ⟨S0, rec, rfl, by rw [hr1]; simp, ?_⟩
  rw [hr2]
  simp only [ABlock, AThen]
  refine AW.seq ?_
  refine AW.drw 5 rfl rfl rfl ?_
  rw [hS0]
  simp only [undef, aops, aop, acall, ev, ofValue, put_some, put_none, AThen, upd_get, Nat.reduceEqDiff, ↓reduceIte, cells_v, splice, List.map_cons, List.map_nil, List.length_cons, List.length_nil, List.take_succ_cons, List.take_zero, List.drop_succ_cons, List.drop_zero, List.nil_append, List.cons_append, List.append_nil, List.getElem?_cons_zero, List.getElem?_cons_succ, List.all_cons, List.all_nil, one_v, Value.oneCell', Bool.and_self, true_and, and_true, Nat.zero_add, aload, aloadG, gndFor, gndL, astore, afieldAddr, rpart, alookup, Option.map_some, hp_get_cons, hp_notin_nil, hp_get_out, Bool.false_eq_true, qops, qop, exists_eq_left', and_assoc, exists_and_left, agg_3, zero_38, agg_38, agg_27, field_64_1, agg_61, map_61, e0, e3, e4, e5, rpart, h43, h53, hp3]
  refine ⟨rfl, ?_⟩
  have hmg : Eng.mget (mC es) at_ = (Pl.pget es at_).map (fun b => .sl 1 (cel b)) := Pl.mget_gmap _ _ _
  have hlast : lastC at_ ps = none := lastC_none (fun x hx => by
   obtain ⟨j, hj, rfl⟩ := List.mem_iff_getElem.1 hx
   exact hno j hj (Nat.zero_le _))
  have fin : ∀ (b : List Int), (Pl.pget es at_).getD [] = b → ∀ (q cap : Nat) (t : Hp), 64 ≤ cap → cap ≤ maxLen → [(q, AObj.cells 5 (cel (Mac.blk b)) (cap * 1))].Sublist t → K' (.tup [.v (.slice (some ⟨q, 0, none⟩) 64 cap), .v .nilIface]) t := by
   intro b hb q cap t h1 h2 h3
   rw [hK']
   refine ⟨q, cap, _, h1, h2, rfl, rfl, ?_⟩
   unfold readC
   rw [hlast]
   simp only [hb]
   exact h3
  rw [hmg]
  cases hpg : Pl.pget es at_ with
  | none =>
   simp only [Option.map_none]
   refine whole_av_nil _ _ ?_
   intro q cap hq h64 hmx
   simp only [hp_notin_cons, hp_notin_nil, and_true] at hq
   obtain ⟨hqp, hq5, hq4, hq3⟩ := hq
   try simp only [↓reduceIte, cells_v, List.length_cons, List.length_nil, List.drop_succ_cons, List.drop_nil, List.append_nil, List.all_cons, List.all_nil, one_v, Value.oneCell', Bool.and_self, true_and, and_true, Nat.zero_add, Nat.le_refl, ne_eq, not_false_eq_true, hp_get_cons, hp_notin_nil, hp_notin_cons, hp_set_out, hp_set_cons, Nat.mul_one, h43,h54,h53,hp5,hp4,hq5,hq4]
   repeat' (first | refine AW.seq ?_ | ((first | refine AW.reg (by rfl) ?_ | refine AW.skip ?_ | refine AW.ret ?_ | refine AW.exit ?_); simp only [APost, ares, oneOrTup, upd_get, Nat.reduceEqDiff, ↓reduceIte, List.getElem?_cons_zero, aload, hp_get_cons, agg_38, agg_27, e4,e5,h54,hp5,hp4,hq5,hq4]) | refine AW.block ?_ | with_reducible refine AW.condT rfl ?_ | with_reducible refine AW.condF rfl ?_)
   refine fin [] (by rw [hpg]; rfl) q cap _ h64 hmx ?_
   rw [Nat.mul_one]
   exact .cons_cons _ (List.nil_sublist _)
  | some bb =>
   simp only [Option.map_some]
   refine whole_av bb _ _ ?_
   intro q cap hq h64 hmx
   simp only [hp_notin_cons, hp_notin_nil, and_true] at hq
   obtain ⟨hqp, hq5, hq4, hq3⟩ := hq
   try simp only [↓reduceIte, cells_v, List.length_cons, List.length_nil, List.drop_succ_cons, List.drop_nil, List.append_nil, List.all_cons, List.all_nil, one_v, Value.oneCell', Bool.and_self, true_and, and_true, Nat.zero_add, Nat.le_refl, ne_eq, not_false_eq_true, hp_get_cons, hp_notin_nil, hp_notin_cons, hp_set_out, hp_set_cons, Nat.mul_one, h43,h54,h53,hp5,hp4,hq5,hq4]
   repeat' (first | refine AW.seq ?_ | ((first | refine AW.reg (by rfl) ?_ | refine AW.skip ?_ | refine AW.ret ?_ | refine AW.exit ?_); simp only [APost, ares, oneOrTup, upd_get, Nat.reduceEqDiff, ↓reduceIte, List.getElem?_cons_zero, aload, hp_get_cons, agg_38, agg_27, e4,e5,h54,hp5,hp4,hq5,hq4]) | refine AW.block ?_ | with_reducible refine AW.condT rfl ?_ | with_reducible refine AW.condF rfl ?_)
   refine fin bb (by rw [hpg]; rfl) q cap _ h64 hmx ?_
   rw [Nat.mul_one]
   exact .cons_cons _ (List.nil_sublist _)
 | succ i =>
  have hge : decide (0 ≤ ((i + 1 : Nat) : Int) - 1) = true := by simp
  refine AW.seq ?_
  refine AW.seq ?_
  refine AW.reg (by rfl) ?_
  simp only [aops, aop, ev, ofValue, put_some, AThen, upd_get, ↓reduceIte, true_and, abin, aint, f3]
  refine AW.condT (by simp only [ev, upd_get, if_true]; rw [hge]) ?_
  refine AW.skip ?_
  simp only [AThen]
  refine AW.seq ?_
  refine AW.block ?_
  refine AW.seq ?_
  refine AW.yield 6 (by rfl) ?_
  have hlt : i < ps.length := by omega
  have hidx : (((i + 1 : Nat) : Int) - 1).toNat = i := by omega
  have hat : (ps.map pC).getD i default = .agg [.v (.int .i64 ps[i].1), optC ps[i].2] := by rw [List.getD_eq_getElem?_getD, List.getElem?_map, List.getElem?_eq_getElem hlt]; rfl
  rw [hS0]
  simp only [ayield, List.take, List.drop, aops, aop, ev, put_some, AThen, upd_get, Nat.reduceEqDiff, ↓reduceIte, List.map_cons, List.map_nil, List.length_cons, List.length_nil, List.getElem?_cons_zero, List.getElem?_cons_succ, true_and, Nat.reduceAdd, Nat.zero_add, aload, aloadG, gndFor, aun, aindexAddr, Int.reduceNeg, hp_get_cons, reduceCtorEq, List.length_map, and_assoc, agg_62, elem_62, agg_90, f0, f1, f3, hlp, hidx, hat]
  refine ⟨by omega, by omega, l, rfl, ?_⟩
  refine YieldS.of hr1 hr2 (by rw [hr3]; rfl) (by rw [hr3]; simp [Tryd.ntmps18]) ?_
  rw [hr4, hr3, hr5]
  simp only [putAll]
  repeat' (first | refine AW.seq ?_ | ((first | refine AW.reg (by rfl) ?_ | refine AW.skip ?_ | refine AW.ret ?_ | refine AW.exit ?_); simp only [undef, aops, aop, ev, put_some, put_none, upd_get, Nat.reduceEqDiff, ↓reduceIte, Value.cells, cells_agg, splice, List.map_cons, List.map_nil, List.length_cons, List.length_nil, List.take_zero, List.drop_succ_cons, List.drop_nil, List.nil_append, List.append_nil, List.all_cons, List.all_nil, one_v, Value.oneCell', Bool.and_self, true_and, and_true, Nat.reduceAdd, Nat.zero_add, Nat.le_refl, astore, aalloc, ne_eq, List.size_toArray, Int.reduceNeg, Option.map_some, hp_get_cons, hp_notin_nil, hp_notin_cons, hp_set_out, and_imp, hp_set_cons, zero_90, agg_90, optC_one]) | refine AW.block ?_ | with_reducible refine AW.condT rfl ?_ | with_reducible refine AW.condF rfl ?_)
  intro b8 h8p h85 h84 h83
  by_cases he : ps[i].1 = at_
  ·have hd : (ps[i].1 == at_) = true := by simpa using he
   have hd2 : decide (ps[i].1 = at_) = true := by simpa using he
   repeat' (first | refine AW.seq ?_ | ((first | refine AW.reg (by rfl) ?_ | refine AW.skip ?_ | refine AW.ret ?_ | refine AW.exit ?_); simp only [undef, aops, aop, acall, ev, ofValue, put_some, put_none, AThen, upd_get, Nat.reduceEqDiff, ↓reduceIte, cells_v, splice, List.map_cons, List.map_nil, List.length_cons, List.length_nil, List.take_zero, List.nil_append, List.cons_append, List.append_nil, List.getElem?_cons_zero, List.getElem?_cons_succ, List.all_cons, List.all_nil, one_v, Value.oneCell', Bool.and_self, true_and, Nat.zero_add, Nat.add_zero, aload, aloadG, gndFor, astore, abin, aint, afieldAddr, Int.reduceNeg, Option.map_some, hp_get_cons, agg_3, agg_38, agg_27, field_90_0, field_90_1, e3,e4,e5,h43,h53,hp3,h83,Ne.symm h8p,Ne.symm h85,Ne.symm h84,Ne.symm h83,hd2]) | refine AW.block ?_ | with_reducible refine AW.condT rfl ?_ | with_reducible refine AW.condF rfl ?_)
   refine whole_any _ _ _ ?_
   intro q cap hq h64 hmx
   simp only [hp_notin_cons, hp_notin_nil, and_true] at hq
   obtain ⟨hq8, hqp, hq5, hq4, hq3⟩ := hq
   try simp only [↓reduceIte, cells_v, List.length_cons, List.length_nil, List.drop_succ_cons, List.drop_nil, List.append_nil, List.all_cons, List.all_nil, one_v, Value.oneCell', Bool.and_self, true_and, and_true, Nat.zero_add, Nat.le_refl, ne_eq, not_false_eq_true, Int.reduceNeg, hp_get_cons, hp_notin_nil, hp_notin_cons, hp_set_out, hp_set_cons, Nat.mul_one, h43,h54,h53,hp5,hp4,h85,h84,hq5,hq4]
   repeat' (first | refine AW.seq ?_ | ((first | refine AW.reg (by rfl) ?_ | refine AW.skip ?_ | refine AW.ret ?_ | refine AW.exit ?_); simp only [ABlock, Int.reduceNeg]) | refine AW.block ?_ | with_reducible refine AW.condT rfl ?_ | with_reducible refine AW.condF rfl ?_)
   simp only [YEnd]
   try simp only [Bool.not_false]
   repeat' (first | refine AW.seq ?_ | ((first | refine AW.reg (by rfl) ?_ | refine AW.skip ?_ | refine AW.ret ?_ | refine AW.exit ?_); simp only [AThen, ABlock, APost, ares]) | refine AW.block ?_ | with_reducible refine AW.condT rfl ?_ | with_reducible refine AW.condF rfl ?_)
   rw [← hQ]
   refine ⟨_, _, rfl, by simp, ?_⟩
   simp only
   repeat' (first | refine AW.seq ?_ | ((first | refine AW.reg (by rfl) ?_ | refine AW.skip ?_ | refine AW.ret ?_ | refine AW.exit ?_); simp only [AThen, ABlock, APost, ares, oneOrTup, ↓reduceIte, List.getElem?_cons_zero, aload, hp_get_cons, agg_38, agg_27, e4,e5,h54,hp5,hp4,h85,h84,hq5,hq4]) | refine AW.block ?_ | with_reducible refine AW.condT rfl ?_ | with_reducible refine AW.condF rfl ?_)
   rw [hK']
   refine ⟨q, cap, _, h64, hmx, rfl, rfl, ?_⟩
   have : readC at_ es ps = Mac.blk (ps[i].2.getD []) := by
    unfold readC
    rw [lastC_take (fun j hj hij => hno j hj (by omega)) hlt he]
   rw [this, Nat.mul_one]
   exact .cons_cons _ (List.nil_sublist _)
  ·have hd : (ps[i].1 == at_) = false := by simpa using he
   have hd2 : decide (ps[i].1 = at_) = false := by simpa using he
   repeat' (first | refine AW.seq ?_ | ((first | refine AW.reg (by rfl) ?_ | refine AW.skip ?_ | refine AW.ret ?_ | refine AW.exit ?_); simp only [aops, aop, ev, put_some, AThen, ABlock, upd_get, Nat.reduceEqDiff, ↓reduceIte, List.getElem?_cons_zero, true_and, Nat.add_zero, aload, aloadG, gndFor, abin, aint, afieldAddr, Int.reduceNeg, hp_get_cons, agg_3, field_90_0, e3,h43,h53,hp3,h83,Ne.symm h8p,Ne.symm h85,Ne.symm h84,Ne.symm h83,hd2]) | refine AW.block ?_ | with_reducible refine AW.condT rfl ?_ | with_reducible refine AW.condF rfl ?_)
   simp only [YEnd]
   try simp only [Bool.not_true]
   repeat' (first | refine AW.seq ?_ | ((first | refine AW.reg (by rfl) ?_ | refine AW.skip ?_ | refine AW.ret ?_ | refine AW.exit ?_); simp only [aops, aop, ev, ofValue, put_some, AThen, ABlock, upd_get, Nat.reduceEqDiff, ↓reduceIte, true_and, abin, aint, f3]) | refine AW.block ?_ | with_reducible refine AW.condT rfl ?_ | with_reducible refine AW.condF rfl ?_)
   rw [hH]
   refine ⟨i, _, by omega, ?_, ?_, i, by omega, by rw [hS0], rfl, ?_, ?_, ?_, fun j hj hij => ?_⟩
   ·intro x hx
    simp only [List.mem_cons, List.not_mem_nil, or_false] at hx ⊢
    rcases hx with rfl | rfl | rfl | rfl | rfl <;> simp
   ·exact hnd
   ·simp [upd_get, f0]
   ·simp [upd_get, f1]
   ·simp only [upd_get, if_true]
    have : IntKind.i64.wrap (((i + 1 : Nat) : Int) - 1 - 1) = (i : Int) - 1 := by rw [wrap_i64 (by omega) (by omega)]; omega
    rw [this]
   ·rcases Nat.lt_or_ge i j with h1 | h1
    ·exact hno j hj (by omega)
    ·have : j = i := by omega
     subst this; exact he
theorem read_err (rm at_ : Int) (h : at_ < 0 ∨ 1073741824 < at_) (x y : AV) (hy : y.isAgg = false) :
  Meets Tryd.prog 18 [.rp (.agg [.v (.int .i64 rm), x, y]), .v (.int .i64 at_)] [] (fun r t => r = .tup [.v (.slice none 0 0), .ifc 95 (.agg [.v (.string ⟨#[98,108,111,99,107]⟩), .v (.int .i64 at_), .v (.iface 31 (.int .i64 2))])]) := by
 obtain ⟨K', hK'⟩ : ∃ K' : AV → Hp → Prop, K' = (fun r t => r = .tup [.v (.slice none 0 0), .ifc 95 (.agg [.v (.string ⟨#[98,108,111,99,107]⟩), .v (.int .i64 at_), .v (.iface 31 (.int .i64 2))])]) := ⟨_, rfl⟩
 rw [← hK']
 refine Meets.body Tryd.func18 rfl rfl (by simp [Tryd.ntmps18]) ?_
 repeat' (first | refine AW.seq ?_ | ((first | refine AW.reg (by rfl) ?_ | refine AW.skip ?_ | refine AW.ret ?_ | refine AW.exit ?_); simp only [undef, aops, aop, ev, put_some, AThen, entry_get, List.getD_cons_zero, List.getD_cons_succ, Value.cells, cells_v, List.map_cons, List.map_nil, List.length_cons, List.length_nil, List.all_cons, List.all_nil, one_v, Value.oneCell', Bool.and_self, true_and, and_true, Nat.zero_add, abox, aalloc, ne_eq, List.size_toArray, hp_notin_nil, hp_notin_cons, and_imp, forall_const, zero_38, zero_27, Tryd.results18]) | refine AW.block ?_ | with_reducible refine AW.condT rfl ?_ | with_reducible refine AW.condF rfl ?_)
 intro b3 b4 h43 b5 h54 h53
 repeat' (first | refine AW.seq ?_ | ((first | refine AW.reg (by rfl) ?_ | refine AW.skip ?_ | refine AW.ret ?_ | refine AW.exit ?_); simp only [aops, aop, acall, ev, put_some, AThen, upd_get, Nat.reduceEqDiff, ↓reduceIte, List.map_cons, List.map_nil, List.nil_append, List.append_nil, List.getElem?_cons_zero, aload, aloadG, gndFor, hp_get_cons, agg_3, h43,h53]) | refine AW.block ?_ | with_reducible refine AW.condT rfl ?_ | with_reducible refine AW.condF rfl ?_)
 refine right_av_no at_ h _ _ ?_
 skip
 repeat' (first | refine AW.seq ?_ | ((first | refine AW.reg (by rfl) ?_ | refine AW.skip ?_ | refine AW.ret ?_ | refine AW.exit ?_); simp only [undef, aops, aop, ev, ofValue, put_some, put_none, AThen, APost, ares, oneOrTup, upd_get, Nat.reduceEqDiff, ↓reduceIte, cells_v, cells_ifc, splice, List.length_cons, List.length_nil, List.take_zero, List.drop_succ_cons, List.drop_nil, List.nil_append, List.append_nil, List.getElem?_cons_zero, List.all_cons, List.all_nil, one_v, one_ifc, Value.oneCell', Bool.and_self, true_and, and_true, Nat.zero_add, Nat.le_refl, aload, astore, abin, anil, isNilC, ne_eq, not_false_eq_true, Option.map_some, hp_get_cons, hp_notin_nil, hp_notin_cons, hp_set_out, hp_set_cons, Bool.not_false, iface_27, agg_38, agg_27, h43,h54,h53]) | refine AW.block ?_ | with_reducible refine AW.condT rfl ?_ | with_reducible refine AW.condF rfl ?_)
 rw [hK']
end Go.Proofs.YtddbfjgodbfaoaaDoor.T
namespace Go.Mac
open Go Go.Eng Go.Pl Go.Proofs Go.Proofs.YtddbfjgodbfaoaaDoor.T
open Go.Proofs.Tryd (prog)
theorem u8s : ∀ {xs : List LV}, xs.all isU8 = true → ∃ b : List Int, xs = bys b
 | [], _ => ⟨[], rfl⟩
 | x :: xs, h => by
  simp only [List.all_cons, Bool.and_eq_true] at h
  obtain ⟨b, rfl⟩ := u8s h.2
  cases x with
  | int k n =>
   cases k <;> simp [isU8] at h
   exact ⟨n :: b, rfl⟩
  | _ => simp [isU8] at h
theorem pend_told (R : Inst) (at_ : Int) : ∀ {ps : List LV}, ps.all okW = true → ∃ pc : PL, instL R false ps = pc.map pC ∧ ps.map (toP R) = pc.map (fun x => (x.1, x.2.map cel)) ∧
  lastOf at_ ps = (lastC at_ pc).map (fun o => match o with | some b => LV.isl 1 (bys b) | none => .nils)
 | [], _ => ⟨[], by simp [instL], rfl, rfl⟩
 | x :: ps, h => by
  simp only [List.all_cons, Bool.and_eq_true] at h
  obtain ⟨pc, h1, h2, h3⟩ := pend_told R at_ h.2
  have hx := h.1
  unfold okW at hx
  split at hx
  ·rename_i a
   refine ⟨(a, none) :: pc, ?_, ?_, ?_⟩
   ·simp only [instL, List.map_cons, h1]
    simp [pC, optC, inst, instL]
   ·simp [h2, toP]
   ·simp only [lastOf, lastC, h3]
    cases lastC at_ pc with
    | some o => simp
    | none =>
     simp only [Option.map_none]
     split <;> simp
  ·rename_i a y ys
   obtain ⟨b, hb⟩ := u8s hx
   refine ⟨(a, some b) :: pc, ?_, ?_, ?_⟩
   ·simp only [instL, List.map_cons, h1]
    simp only [pC, optC, inst, instL]
    have : inst R false y :: instL R false ys = cel b := by
     rw [← cel_bys R false b, ← hb]; simp only [instL]
    rw [this]
   ·simp only [List.map_cons, h2]
    simp only [toP, Option.map_some]
    rw [hb, cel_bys]
   ·simp only [lastOf, lastC, h3]
    cases lastC at_ pc with
    | some o => simp
    | none =>
     simp only [Option.map_none]
     split
     ·simp [hb]
     ·simp
  ·simp at hx
theorem blk_pad (b : List Int) : (b ++ List.replicate 64 0).take 64 = blk b := by
 unfold blk spliceI
 rcases Nat.lt_or_ge b.length 64 with h | h
 ·rw [Nat.min_eq_left (by omega), List.take_of_length_le (Nat.le_refl _), List.take_append, List.take_of_length_le (by omega), List.take_replicate, List.take_zero, List.nil_append, Nat.zero_add, List.drop_replicate, Nat.min_eq_left (by omega)]
 ·rw [Nat.min_eq_right h, List.take_append_of_le_length h, List.take_zero, List.nil_append, Nat.zero_add, List.length_take, Nat.min_eq_left h, List.drop_replicate]
  simp
theorem pad_isl (b : List Int) : pad64 (.isl 1 (bys b)) = .isl 1 (bys (blk b)) := by
 rw [← blk_pad]
 simp [pad64, bys]
theorem pad_nils : pad64 .nils = .isl 1 (bys (blk [])) := by
 rw [← blk_pad]
 simp [pad64, bys]
theorem map_told (R : Inst) : ∀ (es : List (Int × AV)), (∀ p ∈ es, ∃ b, p.2 = .sl 1 (cel b)) → ∃ ec, es = mC ec
 | [], _ => ⟨[], rfl⟩
 | p :: es, h => by
  obtain ⟨ec, rfl⟩ := map_told R es (fun q hq => h q (List.mem_cons_of_mem _ hq))
  obtain ⟨b, hb⟩ := h p List.mem_cons_self
  refine ⟨(p.1, b) :: ec, ?_⟩
  obtain ⟨k, u⟩ := p
  simp only at hb
  subst hb
  rfl
theorem cel_inj : ∀ {a b : List Int}, cel a = cel b → a = b
 | [], [], _ => rfl
 | [], _ :: _, h => by simp [cel] at h
 | _ :: _, [], h => by simp [cel] at h
 | x :: a, y :: b, h => by
  simp only [cel, List.map_cons, List.cons.injEq] at h
  obtain ⟨h1, h2⟩ := h
  injection h1 with h1
  injection h1 with _ h1
  rw [h1, cel_inj (show cel a = cel b from h2)]
theorem kget_told {R : Inst} {ks : List Int} {vs : List LV} {ec : ML} (hm : MapOk R (ks.zip vs) (mC ec)) (hv : vs.all okBs = true) (n : Int) : kget (ks.zip vs) n = (pget ec n).map fun b => LV.isl 1 (bys b) := by
 have h1 := hm.get n
 have h2 : Eng.mget (mC ec) n = (pget ec n).map (fun b => .sl 1 (cel b)) := mget_gmap _ _ _
 rw [h2] at h1
 cases hp : pget ec n with
 | none =>
  rw [hp] at h1
  cases hk : kget (ks.zip vs) n with
  | none => rfl
  | some x => rw [hk] at h1; simp at h1
 | some b =>
  rw [hp] at h1
  cases hk : kget (ks.zip vs) n with
  | none => rw [hk] at h1; simp at h1
  | some x =>
   rw [hk] at h1
   have hx : x ∈ vs := by
    have hmem : n ∈ (ks.zip vs).map (·.1) := by
     apply Classical.byContradiction
     intro hc
     rw [kget_none hc] at hk; simp at hk
    obtain ⟨y, hy1, hy2⟩ := kget_some hmem
    rw [hk] at hy1
    injection hy1 with hy1
    subst hy1
    exact (List.of_mem_zip hy2).2
   have ho := List.all_eq_true.1 hv x hx
   unfold okBs at ho
   split at ho
   ·rename_i xs
    obtain ⟨b', rfl⟩ := u8s ho
    have : cel b = cel b' := by simpa [inst, cel_bys] using h1
    rw [cel_inj this]; rfl
   ·simp at ho
theorem lm_read {as_ : List LV} {st st' : St} {v : LV} (h : xRead as_ st = some (v, st')) : LMeets prog 18 as_ st v st' := by
 unfold xRead at h
 split at h
 case h_2 => simp at h
 rename_i b at_
 split at h
 case h_2 => simp at h
 rename_i e r ks vs el n ps hl
 split at h
 case isFalse => simp at h
 rename_i hc
 obtain ⟨he, hel, hn, hok, hlen, hvs⟩ := hc
 subst hel; subst hn
 intro R s hs hr
 obtain ⟨t1, t2, hob, _, hperm, _⟩ := hs.ents.focus hl
 obtain ⟨q, es, u3, s3, rfl, hm, h3⟩ := disk_lies hob
 have hb := disk_bor (b := b) (e := e) (r := r) (es := es) (q := q) hok h3
 have harg : ∀ I w xs, Rel I ((R.ρ b, .cells e [.v (.int .i64 r), .v (.map (some q)), u3] 3) :: (q, .imap .i64 es) :: s3) w → RVs I xs (instL R true [.ptr b 0, .int .i64 at_]) →
   RVs (I.with ((R.ρ b, .cells e [.v (.int .i64 r), .v (.map (some q)), u3] 3) :: (q, .imap .i64 es) :: s3) w) xs [.rp (.agg [.v (.int .i64 r), .mp .i64 es, .sl 2 ((ps.map (toP R)).map pAV)]), .v (.int .i64 at_)] := by
  intro I w xs hrel ha
  have ha' : RVs I xs (.v (.pointer (some ⟨R.ρ b, 0, none⟩)) :: [.v (.int .i64 at_)]) := by simpa [instL, inst] using ha
  exact rvs_box (vs := [.v (.int .i64 r), .mp .i64 es, .sl 2 ((ps.map (toP R)).map pAV)]) List.mem_cons_self (us := [.v (.int .i64 r), .v (.map (some q)), u3]) (by simp) hb hrel ha'
 split at h
 ·
  rename_i hat
  simp only [Option.some.injEq, Prod.mk.injEq] at h
  obtain ⟨rfl, rfl⟩ := h
  refine Meets.use _ t2 hperm.symm ?_
  refine Meets.borrow2 harg ((read_err r at_ hat _ _ rfl).mono ?_)
  rintro rr t rfl
  refine ⟨[], by simp, by simp [Hp.keys], rfl, by simp, ?_⟩
  refine ⟨R, s, Agree.refl _ _, Nat.le_refl _, ?_, ?_, HpWk.perm hperm.symm, hs⟩
  ·simp only [inst, instL, mkIfc]
   exact Wk.refl _
  ·simp [refs, refsL]
 ·rename_i hat
  have hat2 : 0 ≤ at_ ∧ at_ ≤ 1073741824 := by omega
  obtain ⟨pc, hp1, hp2, hp3⟩ := pend_told R at_ hok
  obtain ⟨ec, rfl⟩ := map_told R es (fun p hp => by
   have := hm.perm.mem_iff.1 hp
   obtain ⟨y, hy, rfl⟩ := List.mem_map.1 this
   have hyv := (List.of_mem_zip (show (y.1, y.2) ∈ ks.zip vs from hy)).2
   have ho := List.all_eq_true.1 hvs _ hyv
   unfold okBs at ho
   split at ho
   ·rename_i xs hxs
    obtain ⟨b', rfl⟩ := u8s ho
    refine ⟨b', ?_⟩
    simp only [hxs, inst, cel_bys]
   ·simp at ho)
  have hpc : (ps.map (toP R)).map pAV = pc.map pC := by
   rw [hp2, List.map_map]
   apply List.map_congr_left
   rintro ⟨a, o⟩ _
   cases o <;> rfl
  have hkt := kget_told hm hvs at_
  have hres : v = .tup [.isl 1 (bys (readC at_ ec pc)), .nili] ∧ st' = st := by
   rw [hp3, hkt] at h
   unfold readC
   cases hlc : lastC at_ pc with
   | some o =>
    rw [hlc] at h
    cases o with
    | some b' =>
     simp only [Option.map_some, pad_isl, Option.some.injEq, Prod.mk.injEq] at h
     exact ⟨h.1.symm, h.2.symm⟩
    | none =>
     simp only [Option.map_some, pad_nils, Option.some.injEq, Prod.mk.injEq] at h
     exact ⟨h.1.symm, h.2.symm⟩
   | none =>
    rw [hlc] at h
    simp only [Option.map_none] at h
    cases hpg : pget ec at_ with
    | some b' =>
     rw [hpg] at h
     simp only [Option.map_some, pad_isl, Option.some.injEq, Prod.mk.injEq] at h
     exact ⟨h.1.symm, h.2.symm⟩
    | none =>
     rw [hpg] at h
     simp only [Option.map_none, pad_nils, Option.some.injEq, Prod.mk.injEq] at h
     exact ⟨h.1.symm, h.2.symm⟩
  obtain ⟨rfl, rfl⟩ := hres
  refine Meets.froz ?_
  refine Meets.use _ t2 hperm.symm ?_
  rw [hpc] at harg
  have hpl : pc.length ≤ 1048576 := by
   have := congrArg List.length hp1
   rw [instL_eq, List.length_map, List.length_map] at this
   omega
  refine Meets.borrow2 harg ((read_av r at_ hat2 ec pc hpl).mono ?_)
  rintro rr t ⟨q', cap, t', h64, hmx, rfl, rfl, hsub⟩
  refine ⟨[(q', .cells 5 (cel (readC at_ ec pc)) (cap * 1))], fun p hp => hsub.subset hp, fun _ => by simp [Hp.keys], rfl, ?_, ?_⟩
  ·intro p hp
   simp only [List.mem_singleton] at hp
   subst hp
   simp only [AObj.plain, List.all_eq_true]
   intro x hx
   unfold cel at hx
   obtain ⟨y, _, rfl⟩ := List.mem_map.1 hx
   rfl
  ·intro hn
   have hlenr : (readC at_ ec pc).length = 64 := by
    unfold readC
    split <;> exact blk_length _
   have hkn : q' ∉ Hp.keys (((R.ρ b, AObj.cells e [.v (.int .i64 r), .v (.map (some q)), u3] 3) :: (q, .imap .i64 (mC ec)) :: s3) ++ t2) := (List.nodup_cons.1 hn).1
   refine ⟨[(q', .cells 5 (cel (readC at_ ec pc)) (cap * 1))], .tup [.sl 1 (cel (readC at_ ec pc)), .v .nilIface], _, fun p hp => by
    simp only [List.mem_singleton] at hp; subst hp; simp, ?_, .drop _ (.rest (fun k hk => by
     simp only [Hp.keys, List.map_cons, List.map_nil, List.mem_singleton]
     intro e; subst e; exact hkn hk)), ?_⟩
   ·refine BorL.tup (.cons ?_ (.refl _ _))
    refine .row q' 0 64 cap 1 (cap * 1) 5 (cel (readC at_ ec pc)) (cel (readC at_ ec pc)) (by simp) ?_ h64 (by unfold big; omega) ?_ ?_
    ·unfold cel; rw [List.length_map, hlenr]
    ·intro i x hx
     unfold cel at hx
     rw [List.getElem?_map] at hx
     obtain ⟨y, _, rfl⟩ := Option.map_eq_some_iff.1 hx
     rfl
    ·rw [cel_flat, List.drop_zero, List.take_of_length_le]
     unfold cel; rw [List.length_map, hlenr]; omega
   ·refine ⟨R, s, Agree.refl _ _, Nat.le_refl _, ?_, by simp [refs, refsL], HpWk.perm hperm.symm, hs⟩
    simp only [inst, instL, cel_bys]
    exact Wk.refl _
end Go.Mac
namespace Go.Mac
open Go Go.Eng Go.Proofs
open Go.Proofs.Tryd (prog)
theorem extB_sound {f : FuncId} {F : List LV → St → Option (LV × St)} (h : extB f = some F) {as_ : List LV} {st st' : St} {v : LV} (hF : F as_ st = some (v, st')) : LMeets prog f as_ st v st' := by
 simp only [extB] at h
 split at h
 ·rename_i hf; subst hf; injection h with h; subst h; exact lm_mclone hF
 split at h
 ·rename_i hf; subst hf; injection h with h; subst h; exact lm_needs hF
 split at h
 ·rename_i hf; subst hf; injection h with h; subst h; exact lm_is hF
 split at h
 ·rename_i hf; subst hf; injection h with h; subst h; exact lm_read hF
 split at h
 ·rename_i hf; subst hf; injection h with h; subst h; exact lm_sorted hF
 split at h
 ·rename_i hf; subst hf; injection h with h; subst h; exact lm_as hF
 ·simp at h
theorem mixed_seat : prog.follows .mixedOrders = true := by kernel_rfl
theorem extCk : ExtSound prog Ck := fun f F h as_ st v st' hF => extB_sound h hF
theorem extC0 : ExtSound prog C0 := by
 intro f F h as_ st v st' hF
 simp only [C0] at h
 split at h
 ·rename_i hf; subst hf; injection h with h; subst h; exact lcall_sound extCk mixed_seat 600 _ _ _ _ _ hF
 split at h
 ·rename_i hf; subst hf; injection h with h; subst h; exact lcall_sound extCk mixed_seat 600 _ _ _ _ _ hF
 split at h
 ·rename_i hf; subst hf; injection h with h; subst h; exact lcall_sound extCk mixed_seat 600 _ _ _ _ _ hF
 ·exact extB_sound h hF
end Go.Mac
namespace Go.Mac
open Go Go.Eng Go.Proofs Go.Proofs.YtddbfjgodbfaoaaDoor
open Go.Proofs.Tryd (prog)
theorem map_of {α : Type} {f : α → LV} {G : LV → Prop} (hG : ∀ x, G x → ∃ n, x = f n) : ∀ {xs : List LV}, (∀ x ∈ xs, G x) → ∃ l : List α, xs = l.map f
 | [], _ => ⟨[], rfl⟩
 | x :: xs, h => by
  obtain ⟨n, hn⟩ := hG x (h x (by simp))
  obtain ⟨l, hl⟩ := map_of hG (xs := xs) fun y hy => h y (by simp [hy])
  exact ⟨n :: l, by rw [hn, hl]; rfl⟩
def isBys (v : LV) : Prop := ∃ b : List Int, v = .isl 1 (bys b)
def isInts (v : LV) : Prop := ∃ b : List Int, v = .isl 1 (ints b)
theorem Rd.mono {H : Type} {enc : TypeId × Value → H} {P : Program} {R : Inst} {w : World} {t : TypeId} {G G' : LV → Prop} (h : Rd enc P R w t G) (hG : ∀ v, G v → G' v) : Rd enc P R w t G' := by
 intro base sp hd fuel cs x h1 h2
 obtain ⟨v, g, r⟩ := h base sp hd fuel cs x h1 h2
 exact ⟨v, hG v g, r⟩
section
variable {H : Type} {enc : TypeId × Value → H} {P : Program} {R : Inst} {w : World}
theorem Rd.bys {t e : TypeId} (ht : P.underlying t = some (.slice e)) (he : P.underlying e = some (.int .u8)) (hk : P.cellsOf e = 1) (hb : 0 < P.bytesOf e) : Rd enc P R w t isBys :=
 (Rd.slice ht hk (by omega) hb (Rd.int he) (by rintro v ⟨n, rfl, _⟩; rfl)).mono (by
  rintro v ⟨xs, rfl, h, _⟩
  obtain ⟨l, rfl⟩ := map_of (f := LV.int .u8) (by rintro x ⟨n, rfl, _⟩; exact ⟨n, rfl⟩) h
  exact ⟨l, rfl⟩)
theorem Rd.ints {t e : TypeId} (ht : P.underlying t = some (.slice e)) (he : P.underlying e = some (.int .i64)) (hk : P.cellsOf e = 1) (hb : 0 < P.bytesOf e) : Rd enc P R w t isInts :=
 (Rd.slice ht hk (by omega) hb (Rd.int he) (by rintro v ⟨n, rfl, _⟩; rfl)).mono (by
  rintro v ⟨xs, rfl, h, _⟩
  obtain ⟨l, rfl⟩ := map_of (f := LV.int .i64) (by rintro x ⟨n, rfl, _⟩; exact ⟨n, rfl⟩) h
  exact ⟨l, rfl⟩)
end
theorem own_seat : ownKnob prog.godebug = none := by kernel_rfl
theorem laid_seat : laidOutB prog = true := by kernel_rfl
def isInt (k : IntKind) (v : LV) : Prop := ∃ n, v = .int k n
theorem Rd.i {H : Type} {enc : TypeId × Value → H} {P : Program} {R : Inst} {w : World} {t : TypeId} {k : IntKind} (ht : P.underlying t = some (.int k)) : Rd enc P R w t (isInt k) := (Rd.int ht).mono (by rintro v ⟨n, rfl, _⟩; exact ⟨n, rfl⟩)
end Go.Mac
namespace Go.Mac
open Go Go.Eng Go.Proofs Go.Proofs.YtddbfjgodbfaoaaDoor Go.ChangeShapes Go.WideShapes Go.RowKit
open Go.Proofs.Tryd (prog)
set_option maxRecDepth 100000
theorem et_seat : prog.globalNamed "errors.errorType" = some 0 := by kernel_rfl
theorem rt_seat : (prog.cutTypes.find? (·.1 == "internal/reflectlite.rtype")).map (·.2) = some 111 := by kernel_rfl
theorem row_seat : ((List.range 189).filter fun t => prog.rowNamed t [101, 114, 114, 111, 114]) = [27] := by kernel_rfl
theorem size_seat : prog.types.size = 189 := by kernel_rfl
abbrev laidL : List (String × DataW Unit) := [("errors.errorType", Rows.laid_errors_errorType)]
theorem gnd_of_laid {W : World} (h : laidMetH prog laidL W) : Gnd (heapI W) := by
 have h' : laidMet prog [] W ∧ handlesMet prog laidL W := h
 obtain ⟨name, u, ty, e1, e2, e3, e4, e5⟩ := h'.2 _ (List.mem_singleton.2 rfl)
 have en : name = [101, 114, 114, 111, 114] := (Option.some.inj e1).symm
 subst en
 obtain rfl := Option.some.inj (rt_seat.symm.trans e2)
 have hm : ty ∈ (List.range 189).filter fun t => prog.rowNamed t [101, 114, 114, 111, 114] := List.mem_filter.2 ⟨List.mem_range.2 (by rw [← size_seat]; exact e3), e4⟩
 rw [row_seat] at hm
 obtain rfl := List.mem_singleton.1 hm
 have hh : typeHandle prog 27 = .pointer (some ⟨1, 27, none⟩) := by kernel_rfl
 rw [hh] at e5
 have hc : W.cell? ⟨0, 0, none⟩ = some (.iface 111 (.agg #[.pointer (some ⟨1, 27, none⟩)])) := by simpa using World.var?_cell et_seat e5 0
 intro a x hx
 obtain ⟨rfl, rfl⟩ := Prod.mk.inj (List.mem_singleton.1 hx)
 exact (heapI_cell hc).2
noncomputable def laidWorld (os : Os) : World :=
 let w0 := World.holding prog os ⟨#[], #[], []⟩
 { w0 with heap := w0.heap.modify 0 fun
   | .cells _ t frozen => .cells #[.iface 111 (.agg #[.pointer (some ⟨1, 27, none⟩)])] t frozen
   | o => o }
theorem laidWorld_met (os : Os) (args : Array Value) : laidMetH prog laidL ((laidWorld os).forCall (fun _ _ => 0) ⟨#[], args, []⟩).memory :=
 laidMetH_of_parts (laidMet_nil _ _) (by kernel_rfl)
def isOps5 (v : LV) : Prop := ∃ l, v = .isl 5 (ops5 l)
theorem rd_op5 {H : Type} (enc : TypeId × Value → H) (W : World) : Rd enc prog R0 W 41 (fun v => ∃ x, v = op5 x) := by
 have I := Rd.i (enc := enc) (P := prog) (R := R0) (w := W) (t := 3) (k := .i64) (by kernel_rfl)
 have B := Rd.bys (enc := enc) (P := prog) (R := R0) (w := W) (t := 38) (e := 5) (by kernel_rfl) (by kernel_rfl) (by kernel_rfl) (Nat.le_of_ble_eq_true (by kernel_rfl))
 have N := Rd.ints (enc := enc) (P := prog) (R := R0) (w := W) (t := 39) (e := 3) (by kernel_rfl) (by kernel_rfl) (by kernel_rfl) (Nat.le_of_ble_eq_true (by kernel_rfl))
 have hI : ∀ v, isInt .i64 v → lcells v = [v] := by rintro v ⟨n, rfl⟩; rfl
 have hB : ∀ v, isBys v → lcells v = [v] := by rintro v ⟨n, rfl⟩; rfl
 have hN : ∀ v, isInts v → lcells v = [v] := by rintro v ⟨n, rfl⟩; rfl
 refine (Rd.struct1 (Gs := [isInt .i64, isInt .i64, isBys, isInts, isInt .i64]) Tryd.underlying41 (by kernel_rfl) rfl ?_).mono ?_
 ·intro i f G hf hG
  match i, hf, hG with
  | 0, hf, hG => cases hf; cases hG; exact ⟨rfl, by kernel_rfl, I, hI⟩
  | 1, hf, hG => cases hf; cases hG; exact ⟨rfl, by kernel_rfl, I, hI⟩
  | 2, hf, hG => cases hf; cases hG; exact ⟨rfl, by kernel_rfl, B, hB⟩
  | 3, hf, hG => cases hf; cases hG; exact ⟨rfl, by kernel_rfl, N, hN⟩
  | 4, hf, hG => cases hf; cases hG; exact ⟨rfl, by kernel_rfl, I, hI⟩
  | i + 5, hf, hG => simp at hG
 ·rintro v ⟨vs, rfl, hl, h⟩
  have hl : vs.length = 5 := hl
  match vs, hl with
  | [a, a2, b, c, d], _ =>
   obtain ⟨k, rfl⟩ := h 0 a _ rfl rfl
   obtain ⟨q, rfl⟩ := h 1 a2 _ rfl rfl
   obtain ⟨b, rfl⟩ := h 2 b _ rfl rfl
   obtain ⟨s, rfl⟩ := h 3 c _ rfl rfl
   obtain ⟨u, rfl⟩ := h 4 d _ rfl rfl
   exact ⟨⟨k, q, b, s, u⟩, rfl⟩
theorem rd_ops5 {H : Type} (enc : TypeId × Value → H) (W : World) : Rd enc prog R0 W 22 isOps5 := by
 refine (Rd.slice (e := 41) (k := 5) (by kernel_rfl) (by kernel_rfl) (by omega) (Nat.le_of_ble_eq_true (by kernel_rfl)) (rd_op5 enc W) (by rintro v ⟨b, rfl⟩; rfl)).mono ?_
 rintro v ⟨xs, rfl, h, _⟩
 obtain ⟨l, rfl⟩ := map_of (f := op5) (fun x h => h) h
 exact ⟨l, rfl⟩
end Go.Mac
namespace Go.Mac
open Go Go.Eng Go.Proofs Go.Proofs.YtddbfjgodbfaoaaDoor
open Go.Proofs.Tryd (prog)
set_option maxRecDepth 100000
theorem does_lcall (rm : Int) (l : List Act5) :
  lcall prog C0 1301 3 [.int .i64 rm, .isl 5 (ops5 l)] ⟨0, []⟩ = some (.bool true, ⟨0, []⟩) := by
 have h := bd_ok rm l
 have hr : refsL [.int .i64 rm, .isl 5 (ops5 l)] = [] := rfl
 have e : renL (fun b => ixOf [] b 0) [.int .i64 rm, .isl 5 (ops5 l)] = [.int .i64 rm, .isl 5 (ops5 l)] := rfl
 rw [← e] at h
 exact lcall_nil hr h
theorem does_params {H : Type} (enc : TypeId × Value → H) (W : World) : Params enc prog R0 W Tryd.f3.params.toList [isInt .i64, isOps5] := by
 rw [Tryd.params3]
 exact ⟨⟨ok1_int (k := .i64) (by kernel_rfl), Rd.i (by kernel_rfl), by rintro u ⟨l, rfl⟩; rfl⟩, ⟨ok1_slice (e := 41) (by kernel_rfl), rd_ops5 enc W, by rintro u ⟨l, rfl⟩; rfl⟩, trivial⟩
theorem enterDoes (vs : Array Value) (W : World) : (callFunc 3 vs).run prog W = .ok (.enter 3 vs) W := by kernel_rfl
theorem does_lifted (os : Os) (started : os.Started) (H : Type) (enc : TypeId × Value → H) :
  ReturnsInHanded {} Tryd.checked os 3 .any (fun w args => (Rows.blockDoesSpec.pre enc prog Tryd.f3 Rows.blockDoesRow.domain false w args ∧ laidMetH prog laidL w) ∧ sizedMet enc prog Tryd.f3 (OpenSpec.ofChange Rows.blockDoesSpec) false w args)
   (Rows.blockDoesSpec.post enc prog Tryd.f3 false true false false) :=
 lifted_of_lcall_laid (X := fun w _ => laidMetH prog laidL w) (K := Tryd.checked) (C := C0) (Gs := [isInt .i64, isOps5]) (tb := 4) (fun _ _ _ hh h => h.of_heap hh) (fun _ _ h => gnd_of_laid h) started own_seat laid_seat extC0 mixed_seat (by kernel_rfl) Tryd.func3 rfl
  (by rw [Tryd.params3]; exact of_decide_eq_true (by kernel_rfl)) (by kernel_rfl) (by kernel_rfl) (fun W => does_params enc W)
  (fun xs h => by
   match xs, h with
   | [a, b], h =>
    obtain ⟨⟨n, rfl⟩, ⟨k, rfl⟩, _⟩ := h
    exact ⟨1301, does_lcall n k, rfl⟩)
  (fun ds h => by
   have h : ds.length = 2 := h
   match ds, h with
   | [d1, d2], _ => exact ⟨rfl, rfl, rfl⟩)
  enterDoes
  (ChangeSpec.witness_at (enc := enc) (C := Tryd.checked) (os := os) (X := fun w _ => laidMetH prog laidL w) false (laidWorld os) #[.int .i64 0, .slice none 0 0] 8 rfl (by kernel_rfl) (by kernel_rfl) (by kernel_rfl) (by kernel_rfl) (by kernel_rfl) (laidWorld_met os _))
theorem does_over : Rows.blockDoesRow.holds Tryd.pinned (OpenSpec.ofChange Rows.blockDoesSpec) :=
 OpenClaim.holds_of_wide 3 Tryd.f3 rfl rfl rfl rfl rfl rfl rfl ⟨rfl, rfl, rfl, rfl, rfl⟩ rfl rfl rfl rfl rfl (by kernel_rfl) Tryd.func3 (by kernel_rfl)
  (of_decide_eq_true (by kernel_rfl)) (by unfold Func.isWrapper; first | (rw [if_pos (by decide +kernel)]; kernel_rfl) | (rw [if_neg (by decide +kernel)]; exact ⟨rfl, rfl⟩))
  (fun os started H enc _ => does_lifted os started H enc)
end Go.Mac
namespace Go.Proofs.YtddbfjgodbfaoaaDoor
theorem blockDoes_holds : Rows.BlockDoesCardSaid :=
 Claim7.holds_tied_plain_at .later [] [.handle] true (true, "c3fc81baa855257402cbc0179af60ab3c03419440fcea4c204e822c83a59097f") true
  Go.Mac.does_over (fun _ h => by cases h) (by kernel_rfl) (fun _ h => by cases h) blockDoes_row_tie rfl ⟨rfl, rfl⟩ (by kernel_rfl) rfl
  (fun f fn hf hfn => by
   obtain rfl : f = 3 := Option.some.inj ((show Tryd.prog.funcNamed "castellan/castellanlaw08.BlockDoes" = some 3 by kernel_rfl).symm.trans hf) |>.symm
   obtain rfl : fn = Tryd.f3 := (Option.some.inj (Tryd.func3.symm.trans hfn)).symm
   exact ⟨by kernel_rfl, fun j t ht => by
    rw [Tryd.params3] at ht
    have h3 : t = 3 ∨ t = 22 := by
     rcases j with _ | _ | j
     ·exact .inl (by simpa using ht.symm)
     ·exact .inr (by simpa using ht.symm)
     ·simp at ht
    rcases h3 with rfl | rfl
    ·exact (show Tryd.prog.wantsStandIn 3 = false by kernel_rfl)
    ·exact (show Tryd.prog.wantsStandIn 22 = false by kernel_rfl)⟩)
  (by kernel_rfl)
end Go.Proofs.YtddbfjgodbfaoaaDoor
