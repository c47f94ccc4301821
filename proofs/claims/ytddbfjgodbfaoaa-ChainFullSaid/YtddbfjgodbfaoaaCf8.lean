import Derived.Test.YtddbfjgodbfaoaaCf3
import Derived.Test.YtddbfjgodbfaoaaCf5
import Derived.Test.YtddbfjgodbfaoaaCf7
import Derived.Test.YtddbfjgodbfaoaaRows
set_option linter.unusedVariables false
set_option linter.unusedSimpArgs false
namespace Go.Proofs.Ytddbfjgodbfaoaa.T
open Go Go.Eng Go.Proofs.Ytddbfjgodbfaoaa.Ty
set_option linter.unusedSimpArgs false
set_option linter.unusedVariables false
theorem back_av (xs : List AV) (s : Hp) (K : AV → Hp → Prop) (hk : ∀ p, p ∉ s.keys → K (.v (.func (.func 62) #[] #[.pointer (some ⟨p, 0, none⟩)])) ((p, .cells 75 [.sl 2 xs] 1) :: s)) :
    Meets Try.prog 46 [.sl 2 xs] s K := by
  have h0 : Meets Try.prog 46 [.sl 2 xs] [] (fun r t => ∃ p, r = .v (.func (.func 62) #[] #[.pointer (some ⟨p, 0, none⟩)]) ∧ t = [(p, .cells 75 [.sl 2 xs] 1)]) := by
    obtain ⟨K', hK'⟩ : ∃ K' : AV → Hp → Prop, K' = (fun r t => ∃ p, r = .v (.func (.func 62) #[] #[.pointer (some ⟨p, 0, none⟩)]) ∧ t = [(p, .cells 75 [.sl 2 xs] 1)]) := ⟨_, rfl⟩
    rw [← hK']
    refine Meets.body Try.func46 rfl rfl (by simp [Try.ntmps46]) ?_
    repeat' (first | refine AW.seq ?_ | ((first | refine AW.reg (by rfl) ?_ | refine AW.skip ?_ | refine AW.ret ?_ | refine AW.exit ?_); simp only [undef, aops, aop, acall, ev, ofValue, put_some, put_none, AThen, ABlock, APost, ares, oneOrTup, upd_get, entry_get, guardOf, Nat.reduceEqDiff, ↓reduceIte, List.getD_cons_zero, List.getD_cons_succ, List.getD_nil, abuild, abuildSlice, parts, zcells, Value.cells, afill, cells_agg, cells_v, cells_sl, cells_rp, cells_ifc, cells_mp, mkIfc, splice, List.map_cons, List.map_nil, List.length_cons, List.length_nil, List.take_succ_cons, List.take_zero, List.drop_succ_cons, List.drop_zero, List.take_nil, List.drop_nil, List.nil_append, List.cons_append, List.append_nil, List.getElem?_cons_zero, List.getElem?_cons_succ, List.all_cons, List.all_nil, one_v, one_sl, one_rp, one_ifc, one_mp, one_agg, Value.oneCell', Bool.and_self, Bool.and_true, Bool.true_and, true_and, and_true, Nat.reduceAdd, Nat.reduceLeDiff, Nat.reduceMul, Nat.zero_add, Nat.add_zero, Nat.le_refl, Nat.zero_le, aload, astore, abox, aalloc, abin, aint, ashift, apick, anil, anils, isNilC, aun, aconvInt, arange, anext, aentry, aassertAny, aassert2, anilm, aifeq, ainvoke, ne_eq, not_true_eq_false, not_false_eq_true, afieldAddr, afield, apart, rpart, aindexAddr, aindex, alen, aextract, aassert, amakeFunc, amakeSlice, amakeMap, alookup, amapUpdate, adelete, acopy, acopySrc, srcOf, aappend, bcells_eq, bcellsR, mcells_one, mcells_zero, List.length_replicate, List.size_toArray, Int.cast_ofNat_Int, Int.one_mul, Int.reduceToNat, Int.reduceLT, Int.reduceLE, Int.reduceMul, Int.reduceAdd, Int.reduceSub, Int.reduceNeg, Int.reduceEq, Nat.reduceLT, Nat.reduceSub, flats, amax, amin, aslice, abounds, optInt, Option.map_some, Option.map_none, Option.getD_some, Option.getD_none, Option.bind_some, Option.bind_none, Option.isSome_some, Option.isSome_none, false_imp_iff, hp_get_nil, hp_get_cons, hp_del_nil, hp_del_cons, hp_notin_nil, hp_notin_cons, hp_set_out, hp_get_out, hp_del_out, and_imp, hp_set_nil, hp_set_cons, List.map_toArray, Array.toList_map, reduceCtorEq, false_and, and_false, if_true, if_false, Bool.false_eq_true, Bool.not_true, Bool.not_false, decide_true, decide_false, implies_true, forall_const, List.length_map, qops, qop, exists_eq_left', exists_eq_left, and_assoc, exists_and_left, Int.toNat_natCast, Int.natCast_nonneg, Nat.mul_one, agg_75, Try.results46]) | refine AW.block ?_ | with_reducible refine AW.condT rfl ?_ | with_reducible refine AW.condF rfl ?_)
    intro p
    repeat' (first | refine AW.seq ?_ | ((first | refine AW.reg (by rfl) ?_ | refine AW.skip ?_ | refine AW.ret ?_ | refine AW.exit ?_); simp only [undef, aops, aop, acall, ev, ofValue, put_some, put_none, AThen, ABlock, APost, ares, oneOrTup, upd_get, entry_get, guardOf, Nat.reduceEqDiff, ↓reduceIte, List.getD_cons_zero, List.getD_cons_succ, List.getD_nil, abuild, abuildSlice, parts, zcells, Value.cells, afill, cells_agg, cells_v, cells_sl, cells_rp, cells_ifc, cells_mp, mkIfc, splice, List.map_cons, List.map_nil, List.length_cons, List.length_nil, List.take_succ_cons, List.take_zero, List.drop_succ_cons, List.drop_zero, List.take_nil, List.drop_nil, List.nil_append, List.cons_append, List.append_nil, List.getElem?_cons_zero, List.getElem?_cons_succ, List.all_cons, List.all_nil, one_v, one_sl, one_rp, one_ifc, one_mp, one_agg, Value.oneCell', Bool.and_self, Bool.and_true, Bool.true_and, true_and, and_true, Nat.reduceAdd, Nat.reduceLeDiff, Nat.reduceMul, Nat.zero_add, Nat.add_zero, Nat.le_refl, Nat.zero_le, aload, astore, abox, aalloc, abin, aint, ashift, apick, anil, anils, isNilC, aun, aconvInt, arange, anext, aentry, aassertAny, aassert2, anilm, aifeq, ainvoke, ne_eq, not_true_eq_false, not_false_eq_true, afieldAddr, afield, apart, rpart, aindexAddr, aindex, alen, aextract, aassert, amakeFunc, amakeSlice, amakeMap, alookup, amapUpdate, adelete, acopy, acopySrc, srcOf, aappend, bcells_eq, bcellsR, mcells_one, mcells_zero, List.length_replicate, List.size_toArray, Int.cast_ofNat_Int, Int.one_mul, Int.reduceToNat, Int.reduceLT, Int.reduceLE, Int.reduceMul, Int.reduceAdd, Int.reduceSub, Int.reduceNeg, Int.reduceEq, Nat.reduceLT, Nat.reduceSub, flats, amax, amin, aslice, abounds, optInt, Option.map_some, Option.map_none, Option.getD_some, Option.getD_none, Option.bind_some, Option.bind_none, Option.isSome_some, Option.isSome_none, false_imp_iff, hp_get_nil, hp_get_cons, hp_del_nil, hp_del_cons, hp_notin_nil, hp_notin_cons, hp_set_out, hp_get_out, hp_del_out, and_imp, hp_set_nil, hp_set_cons, List.map_toArray, Array.toList_map, reduceCtorEq, false_and, and_false, if_true, if_false, Bool.false_eq_true, Bool.not_true, Bool.not_false, decide_true, decide_false, implies_true, forall_const, List.length_map, qops, qop, exists_eq_left', exists_eq_left, and_assoc, exists_and_left, Int.toNat_natCast, Int.natCast_nonneg, Nat.mul_one, agg_75, Try.results46]) | refine AW.block ?_ | with_reducible refine AW.condT rfl ?_ | with_reducible refine AW.condF rfl ?_)
    rw [hK']
    exact ⟨p, rfl, rfl⟩
  refine Meets.kn (Meets.frame (s := []) (t := s) (h0.mono ?_))
  rintro r t ⟨p, rfl, rfl⟩
  intro hn
  exact hk p (List.nodup_cons.1 hn).1
theorem read_av (rm at_ : Int) (h : 0 ≤ at_ ∧ at_ ≤ 1073741824) (es : List (Int × List Int)) (ps : List (Int × Option (List Int))) (hlen : ps.length ≤ 1048576) :
    Meets Try.prog 21 [.rp (.agg [.v (.int .i64 rm), .mp .i64 (mC es), .sl 2 (ps.map pC)]), .v (.int .i64 at_)] [] (fun r t => ∃ q cap t', 64 ≤ cap ∧ cap ≤ maxLen ∧ r = .tup [.v (.slice (some ⟨q, 0, none⟩) 64 cap), .v .nilIface] ∧ t' = [(q, .cells 5 (cel (readC at_ es ps)) (cap * 1))] ∧ t'.Sublist t) := by
  obtain ⟨K', hK'⟩ : ∃ K' : AV → Hp → Prop, K' = (fun r t => ∃ q cap t', 64 ≤ cap ∧ cap ≤ maxLen ∧ r = .tup [.v (.slice (some ⟨q, 0, none⟩) 64 cap), .v .nilIface] ∧ t' = [(q, .cells 5 (cel (readC at_ es ps)) (cap * 1))] ∧ t'.Sublist t) := ⟨_, rfl⟩
  rw [← hK']
  refine Meets.body Try.func21 rfl rfl (by simp [Try.ntmps21]) ?_
  repeat' (first | refine AW.seq ?_ | ((first | refine AW.reg (by rfl) ?_ | refine AW.skip ?_ | refine AW.ret ?_ | refine AW.exit ?_); simp only [undef, aops, aop, acall, ev, ofValue, put_some, put_none, AThen, ABlock, APost, ares, oneOrTup, upd_get, entry_get, guardOf, Nat.reduceEqDiff, ↓reduceIte, List.getD_cons_zero, List.getD_cons_succ, List.getD_nil, abuild, abuildSlice, parts, zcells, Value.cells, afill, cells_agg, cells_v, cells_sl, cells_rp, cells_ifc, cells_mp, mkIfc, splice, List.map_cons, List.map_nil, List.length_cons, List.length_nil, List.take_succ_cons, List.take_zero, List.drop_succ_cons, List.drop_zero, List.take_nil, List.drop_nil, List.nil_append, List.cons_append, List.append_nil, List.getElem?_cons_zero, List.getElem?_cons_succ, List.all_cons, List.all_nil, one_v, one_sl, one_rp, one_ifc, one_mp, one_agg, Value.oneCell', Bool.and_self, Bool.and_true, Bool.true_and, true_and, and_true, Nat.reduceAdd, Nat.reduceLeDiff, Nat.reduceMul, Nat.zero_add, Nat.add_zero, Nat.le_refl, Nat.zero_le, aload, astore, abox, aalloc, abin, aint, ashift, apick, anil, anils, isNilC, aun, aconvInt, arange, anext, aentry, aassertAny, aassert2, anilm, aifeq, ainvoke, ne_eq, not_true_eq_false, not_false_eq_true, afieldAddr, afield, apart, rpart, aindexAddr, aindex, alen, aextract, aassert, amakeFunc, amakeSlice, amakeMap, alookup, amapUpdate, adelete, acopy, acopySrc, srcOf, aappend, bcells_eq, bcellsR, mcells_one, mcells_zero, List.length_replicate, List.size_toArray, Int.cast_ofNat_Int, Int.one_mul, Int.reduceToNat, Int.reduceLT, Int.reduceLE, Int.reduceMul, Int.reduceAdd, Int.reduceSub, Int.reduceNeg, Int.reduceEq, Nat.reduceLT, Nat.reduceSub, flats, amax, amin, aslice, abounds, optInt, Option.map_some, Option.map_none, Option.getD_some, Option.getD_none, Option.bind_some, Option.bind_none, Option.isSome_some, Option.isSome_none, false_imp_iff, hp_get_nil, hp_get_cons, hp_del_nil, hp_del_cons, hp_notin_nil, hp_notin_cons, hp_set_out, hp_get_out, hp_del_out, and_imp, hp_set_nil, hp_set_cons, List.map_toArray, Array.toList_map, reduceCtorEq, false_and, and_false, if_true, if_false, Bool.false_eq_true, Bool.not_true, Bool.not_false, decide_true, decide_false, implies_true, forall_const, List.length_map, qops, qop, exists_eq_left', exists_eq_left, and_assoc, exists_and_left, Int.toNat_natCast, Int.natCast_nonneg, Nat.mul_one, agg_3, zero_23, zero_29, iface_29, issl_29, isptr_29, cmp_71, agg_23, agg_29, field_77_2, agg_75, zero_88, agg_88, field_88_0, iface_3, issl_3, isptr_3, field_88_1, field_77_1, agg_74, map_74, Try.results21, rpart]) | refine AW.block ?_ | with_reducible refine AW.condT rfl ?_ | with_reducible refine AW.condF rfl ?_)
  intro b3 b4 h43 b5 h54 h53
  repeat' (first | refine AW.seq ?_ | ((first | refine AW.reg (by rfl) ?_ | refine AW.skip ?_ | refine AW.ret ?_ | refine AW.exit ?_); simp only [undef, aops, aop, acall, ev, ofValue, put_some, put_none, AThen, ABlock, APost, ares, oneOrTup, upd_get, entry_get, guardOf, Nat.reduceEqDiff, ↓reduceIte, List.getD_cons_zero, List.getD_cons_succ, List.getD_nil, abuild, abuildSlice, parts, zcells, Value.cells, afill, cells_agg, cells_v, cells_sl, cells_rp, cells_ifc, cells_mp, mkIfc, splice, List.map_cons, List.map_nil, List.length_cons, List.length_nil, List.take_succ_cons, List.take_zero, List.drop_succ_cons, List.drop_zero, List.take_nil, List.drop_nil, List.nil_append, List.cons_append, List.append_nil, List.getElem?_cons_zero, List.getElem?_cons_succ, List.all_cons, List.all_nil, one_v, one_sl, one_rp, one_ifc, one_mp, one_agg, Value.oneCell', Bool.and_self, Bool.and_true, Bool.true_and, true_and, and_true, Nat.reduceAdd, Nat.reduceLeDiff, Nat.reduceMul, Nat.zero_add, Nat.add_zero, Nat.le_refl, Nat.zero_le, aload, astore, abox, aalloc, abin, aint, ashift, apick, anil, anils, isNilC, aun, aconvInt, arange, anext, aentry, aassertAny, aassert2, anilm, aifeq, ainvoke, ne_eq, not_true_eq_false, not_false_eq_true, afieldAddr, afield, apart, rpart, aindexAddr, aindex, alen, aextract, aassert, amakeFunc, amakeSlice, amakeMap, alookup, amapUpdate, adelete, acopy, acopySrc, srcOf, aappend, bcells_eq, bcellsR, mcells_one, mcells_zero, List.length_replicate, List.size_toArray, Int.cast_ofNat_Int, Int.one_mul, Int.reduceToNat, Int.reduceLT, Int.reduceLE, Int.reduceMul, Int.reduceAdd, Int.reduceSub, Int.reduceNeg, Int.reduceEq, Nat.reduceLT, Nat.reduceSub, flats, amax, amin, aslice, abounds, optInt, Option.map_some, Option.map_none, Option.getD_some, Option.getD_none, Option.bind_some, Option.bind_none, Option.isSome_some, Option.isSome_none, false_imp_iff, hp_get_nil, hp_get_cons, hp_del_nil, hp_del_cons, hp_notin_nil, hp_notin_cons, hp_set_out, hp_get_out, hp_del_out, and_imp, hp_set_nil, hp_set_cons, List.map_toArray, Array.toList_map, reduceCtorEq, false_and, and_false, if_true, if_false, Bool.false_eq_true, Bool.not_true, Bool.not_false, decide_true, decide_false, implies_true, forall_const, List.length_map, qops, qop, exists_eq_left', exists_eq_left, and_assoc, exists_and_left, Int.toNat_natCast, Int.natCast_nonneg, Nat.mul_one, agg_3, zero_23, zero_29, iface_29, issl_29, isptr_29, cmp_71, agg_23, agg_29, field_77_2, agg_75, zero_88, agg_88, field_88_0, iface_3, issl_3, isptr_3, field_88_1, field_77_1, agg_74, map_74, Try.results21, rpart,h43,h54,h53,Ne.symm h43,Ne.symm h54,Ne.symm h53]) | refine AW.block ?_ | with_reducible refine AW.condT rfl ?_ | with_reducible refine AW.condF rfl ?_)
  refine right_av at_ h _ _ ?_
  try simp only [undef, aops, aop, acall, ev, ofValue, put_some, put_none, AThen, ABlock, APost, ares, oneOrTup, upd_get, entry_get, guardOf, Nat.reduceEqDiff, ↓reduceIte, List.getD_cons_zero, List.getD_cons_succ, List.getD_nil, abuild, abuildSlice, parts, zcells, Value.cells, afill, cells_agg, cells_v, cells_sl, cells_rp, cells_ifc, cells_mp, mkIfc, splice, List.map_cons, List.map_nil, List.length_cons, List.length_nil, List.take_succ_cons, List.take_zero, List.drop_succ_cons, List.drop_zero, List.take_nil, List.drop_nil, List.nil_append, List.cons_append, List.append_nil, List.getElem?_cons_zero, List.getElem?_cons_succ, List.all_cons, List.all_nil, one_v, one_sl, one_rp, one_ifc, one_mp, one_agg, Value.oneCell', Bool.and_self, Bool.and_true, Bool.true_and, true_and, and_true, Nat.reduceAdd, Nat.reduceLeDiff, Nat.reduceMul, Nat.zero_add, Nat.add_zero, Nat.le_refl, Nat.zero_le, aload, astore, abox, aalloc, abin, aint, ashift, apick, anil, anils, isNilC, aun, aconvInt, arange, anext, aentry, aassertAny, aassert2, anilm, aifeq, ainvoke, ne_eq, not_true_eq_false, not_false_eq_true, afieldAddr, afield, apart, rpart, aindexAddr, aindex, alen, aextract, aassert, amakeFunc, amakeSlice, amakeMap, alookup, amapUpdate, adelete, acopy, acopySrc, srcOf, aappend, bcells_eq, bcellsR, mcells_one, mcells_zero, List.length_replicate, List.size_toArray, Int.cast_ofNat_Int, Int.one_mul, Int.reduceToNat, Int.reduceLT, Int.reduceLE, Int.reduceMul, Int.reduceAdd, Int.reduceSub, Int.reduceNeg, Int.reduceEq, Nat.reduceLT, Nat.reduceSub, flats, amax, amin, aslice, abounds, optInt, Option.map_some, Option.map_none, Option.getD_some, Option.getD_none, Option.bind_some, Option.bind_none, Option.isSome_some, Option.isSome_none, false_imp_iff, hp_get_nil, hp_get_cons, hp_del_nil, hp_del_cons, hp_notin_nil, hp_notin_cons, hp_set_out, hp_get_out, hp_del_out, and_imp, hp_set_nil, hp_set_cons, List.map_toArray, Array.toList_map, reduceCtorEq, false_and, and_false, if_true, if_false, Bool.false_eq_true, Bool.not_true, Bool.not_false, decide_true, decide_false, implies_true, forall_const, List.length_map, qops, qop, exists_eq_left', exists_eq_left, and_assoc, exists_and_left, Int.toNat_natCast, Int.natCast_nonneg, Nat.mul_one, agg_3, zero_23, zero_29, iface_29, issl_29, isptr_29, cmp_71, agg_23, agg_29, field_77_2, agg_75, zero_88, agg_88, field_88_0, iface_3, issl_3, isptr_3, field_88_1, field_77_1, agg_74, map_74, Try.results21, rpart,h43,h54,h53,Ne.symm h43,Ne.symm h54,Ne.symm h53]
  repeat' (first | refine AW.seq ?_ | ((first | refine AW.reg (by rfl) ?_ | refine AW.skip ?_ | refine AW.ret ?_ | refine AW.exit ?_); simp only [undef, aops, aop, acall, ev, ofValue, put_some, put_none, AThen, ABlock, APost, ares, oneOrTup, upd_get, entry_get, guardOf, Nat.reduceEqDiff, ↓reduceIte, List.getD_cons_zero, List.getD_cons_succ, List.getD_nil, abuild, abuildSlice, parts, zcells, Value.cells, afill, cells_agg, cells_v, cells_sl, cells_rp, cells_ifc, cells_mp, mkIfc, splice, List.map_cons, List.map_nil, List.length_cons, List.length_nil, List.take_succ_cons, List.take_zero, List.drop_succ_cons, List.drop_zero, List.take_nil, List.drop_nil, List.nil_append, List.cons_append, List.append_nil, List.getElem?_cons_zero, List.getElem?_cons_succ, List.all_cons, List.all_nil, one_v, one_sl, one_rp, one_ifc, one_mp, one_agg, Value.oneCell', Bool.and_self, Bool.and_true, Bool.true_and, true_and, and_true, Nat.reduceAdd, Nat.reduceLeDiff, Nat.reduceMul, Nat.zero_add, Nat.add_zero, Nat.le_refl, Nat.zero_le, aload, astore, abox, aalloc, abin, aint, ashift, apick, anil, anils, isNilC, aun, aconvInt, arange, anext, aentry, aassertAny, aassert2, anilm, aifeq, ainvoke, ne_eq, not_true_eq_false, not_false_eq_true, afieldAddr, afield, apart, rpart, aindexAddr, aindex, alen, aextract, aassert, amakeFunc, amakeSlice, amakeMap, alookup, amapUpdate, adelete, acopy, acopySrc, srcOf, aappend, bcells_eq, bcellsR, mcells_one, mcells_zero, List.length_replicate, List.size_toArray, Int.cast_ofNat_Int, Int.one_mul, Int.reduceToNat, Int.reduceLT, Int.reduceLE, Int.reduceMul, Int.reduceAdd, Int.reduceSub, Int.reduceNeg, Int.reduceEq, Nat.reduceLT, Nat.reduceSub, flats, amax, amin, aslice, abounds, optInt, Option.map_some, Option.map_none, Option.getD_some, Option.getD_none, Option.bind_some, Option.bind_none, Option.isSome_some, Option.isSome_none, false_imp_iff, hp_get_nil, hp_get_cons, hp_del_nil, hp_del_cons, hp_notin_nil, hp_notin_cons, hp_set_out, hp_get_out, hp_del_out, and_imp, hp_set_nil, hp_set_cons, List.map_toArray, Array.toList_map, reduceCtorEq, false_and, and_false, if_true, if_false, Bool.false_eq_true, Bool.not_true, Bool.not_false, decide_true, decide_false, implies_true, forall_const, List.length_map, qops, qop, exists_eq_left', exists_eq_left, and_assoc, exists_and_left, Int.toNat_natCast, Int.natCast_nonneg, Nat.mul_one, agg_3, zero_23, zero_29, iface_29, issl_29, isptr_29, cmp_71, agg_23, agg_29, field_77_2, agg_75, zero_88, agg_88, field_88_0, iface_3, issl_3, isptr_3, field_88_1, field_77_1, agg_74, map_74, Try.results21, rpart,h43,h54,h53,Ne.symm h43,Ne.symm h54,Ne.symm h53]) | refine AW.block ?_ | with_reducible refine AW.condT rfl ?_ | with_reducible refine AW.condF rfl ?_)
  refine ⟨rfl, ?_⟩
  refine back_av _ _ _ ?_
  intro p hp
  simp only [hp_notin_cons, hp_notin_nil, and_true] at hp
  obtain ⟨hp5, hp4, hp3⟩ := hp
  try simp only [undef, aops, aop, acall, ev, ofValue, put_some, put_none, AThen, ABlock, APost, ares, oneOrTup, upd_get, entry_get, guardOf, Nat.reduceEqDiff, ↓reduceIte, List.getD_cons_zero, List.getD_cons_succ, List.getD_nil, abuild, abuildSlice, parts, zcells, Value.cells, afill, cells_agg, cells_v, cells_sl, cells_rp, cells_ifc, cells_mp, mkIfc, splice, List.map_cons, List.map_nil, List.length_cons, List.length_nil, List.take_succ_cons, List.take_zero, List.drop_succ_cons, List.drop_zero, List.take_nil, List.drop_nil, List.nil_append, List.cons_append, List.append_nil, List.getElem?_cons_zero, List.getElem?_cons_succ, List.all_cons, List.all_nil, one_v, one_sl, one_rp, one_ifc, one_mp, one_agg, Value.oneCell', Bool.and_self, Bool.and_true, Bool.true_and, true_and, and_true, Nat.reduceAdd, Nat.reduceLeDiff, Nat.reduceMul, Nat.zero_add, Nat.add_zero, Nat.le_refl, Nat.zero_le, aload, astore, abox, aalloc, abin, aint, ashift, apick, anil, anils, isNilC, aun, aconvInt, arange, anext, aentry, aassertAny, aassert2, anilm, aifeq, ainvoke, ne_eq, not_true_eq_false, not_false_eq_true, afieldAddr, afield, apart, rpart, aindexAddr, aindex, alen, aextract, aassert, amakeFunc, amakeSlice, amakeMap, alookup, amapUpdate, adelete, acopy, acopySrc, srcOf, aappend, bcells_eq, bcellsR, mcells_one, mcells_zero, List.length_replicate, List.size_toArray, Int.cast_ofNat_Int, Int.one_mul, Int.reduceToNat, Int.reduceLT, Int.reduceLE, Int.reduceMul, Int.reduceAdd, Int.reduceSub, Int.reduceNeg, Int.reduceEq, Nat.reduceLT, Nat.reduceSub, flats, amax, amin, aslice, abounds, optInt, Option.map_some, Option.map_none, Option.getD_some, Option.getD_none, Option.bind_some, Option.bind_none, Option.isSome_some, Option.isSome_none, false_imp_iff, hp_get_nil, hp_get_cons, hp_del_nil, hp_del_cons, hp_notin_nil, hp_notin_cons, hp_set_out, hp_get_out, hp_del_out, and_imp, hp_set_nil, hp_set_cons, List.map_toArray, Array.toList_map, reduceCtorEq, false_and, and_false, if_true, if_false, Bool.false_eq_true, Bool.not_true, Bool.not_false, decide_true, decide_false, implies_true, forall_const, List.length_map, qops, qop, exists_eq_left', exists_eq_left, and_assoc, exists_and_left, Int.toNat_natCast, Int.natCast_nonneg, Nat.mul_one, agg_3, zero_23, zero_29, iface_29, issl_29, isptr_29, cmp_71, agg_23, agg_29, field_77_2, agg_75, zero_88, agg_88, field_88_0, iface_3, issl_3, isptr_3, field_88_1, field_77_1, agg_74, map_74, Try.results21, rpart,h43,h54,h53,Ne.symm h43,Ne.symm h54,Ne.symm h53]
  repeat' (first | refine AW.seq ?_ | ((first | refine AW.reg (by rfl) ?_ | refine AW.skip ?_ | refine AW.ret ?_ | refine AW.exit ?_); simp only [undef, aops, aop, acall, ev, ofValue, put_some, put_none, AThen, ABlock, APost, ares, oneOrTup, upd_get, entry_get, guardOf, Nat.reduceEqDiff, ↓reduceIte, List.getD_cons_zero, List.getD_cons_succ, List.getD_nil, abuild, abuildSlice, parts, zcells, Value.cells, afill, cells_agg, cells_v, cells_sl, cells_rp, cells_ifc, cells_mp, mkIfc, splice, List.map_cons, List.map_nil, List.length_cons, List.length_nil, List.take_succ_cons, List.take_zero, List.drop_succ_cons, List.drop_zero, List.take_nil, List.drop_nil, List.nil_append, List.cons_append, List.append_nil, List.getElem?_cons_zero, List.getElem?_cons_succ, List.all_cons, List.all_nil, one_v, one_sl, one_rp, one_ifc, one_mp, one_agg, Value.oneCell', Bool.and_self, Bool.and_true, Bool.true_and, true_and, and_true, Nat.reduceAdd, Nat.reduceLeDiff, Nat.reduceMul, Nat.zero_add, Nat.add_zero, Nat.le_refl, Nat.zero_le, aload, astore, abox, aalloc, abin, aint, ashift, apick, anil, anils, isNilC, aun, aconvInt, arange, anext, aentry, aassertAny, aassert2, anilm, aifeq, ainvoke, ne_eq, not_true_eq_false, not_false_eq_true, afieldAddr, afield, apart, rpart, aindexAddr, aindex, alen, aextract, aassert, amakeFunc, amakeSlice, amakeMap, alookup, amapUpdate, adelete, acopy, acopySrc, srcOf, aappend, bcells_eq, bcellsR, mcells_one, mcells_zero, List.length_replicate, List.size_toArray, Int.cast_ofNat_Int, Int.one_mul, Int.reduceToNat, Int.reduceLT, Int.reduceLE, Int.reduceMul, Int.reduceAdd, Int.reduceSub, Int.reduceNeg, Int.reduceEq, Nat.reduceLT, Nat.reduceSub, flats, amax, amin, aslice, abounds, optInt, Option.map_some, Option.map_none, Option.getD_some, Option.getD_none, Option.bind_some, Option.bind_none, Option.isSome_some, Option.isSome_none, false_imp_iff, hp_get_nil, hp_get_cons, hp_del_nil, hp_del_cons, hp_notin_nil, hp_notin_cons, hp_set_out, hp_get_out, hp_del_out, and_imp, hp_set_nil, hp_set_cons, List.map_toArray, Array.toList_map, reduceCtorEq, false_and, and_false, if_true, if_false, Bool.false_eq_true, Bool.not_true, Bool.not_false, decide_true, decide_false, implies_true, forall_const, List.length_map, qops, qop, exists_eq_left', exists_eq_left, and_assoc, exists_and_left, Int.toNat_natCast, Int.natCast_nonneg, Nat.mul_one, agg_3, zero_23, zero_29, iface_29, issl_29, isptr_29, cmp_71, agg_23, agg_29, field_77_2, agg_75, zero_88, agg_88, field_88_0, iface_3, issl_3, isptr_3, field_88_1, field_77_1, agg_74, map_74, Try.results21, rpart,h43,h54,h53,Ne.symm h43,Ne.symm h54,Ne.symm h53]) | refine AW.block ?_ | with_reducible refine AW.condT rfl ?_ | with_reducible refine AW.condF rfl ?_)
  refine AW.gen fun e hE => ?_
  have e0 : e 0 = .rp (.agg [.v (.int .i64 rm), .mp .i64 (mC es), .sl 2 (ps.map pC)]) := hE 0
  have e3 : e 3 = .v (.pointer (some ⟨b3, 0, none⟩)) := hE 3
  have e4 : e 4 = .v (.pointer (some ⟨b4, 0, none⟩)) := hE 4
  have e5 : e 5 = .v (.pointer (some ⟨b5, 0, none⟩)) := hE 5
  have e18 : e 18 = .v (.func (.func 62) #[] #[.pointer (some ⟨p, 0, none⟩)]) := hE 18
  clear hE
  refine AW.rangeFunc 62 #[] #[.pointer (some ⟨p, 0, none⟩)] e18 ⟨_, _, Try.func62, rfl, by kernel_rfl⟩ ?_
  intro l rec hl hr1 hr2 hr3 hr4 hr5
  simp only [hp_notin_cons, hp_notin_nil, and_true] at hl
  obtain ⟨hlp, hl5, hl4, hl3⟩ := hl
  refine Meets.nodup fun hnd => ?_
  generalize hQ : RfEnd _ _ _ _ _ _ = K2
  show Meets _ _ [.v (.func (.yield l) #[] #[]), .v (.pointer (some ⟨p, 0, none⟩))] _ _
  refine Meets.body Try.func62 rfl rfl (by simp [Try.ntmps62]) ?_
  repeat' (first | refine AW.seq ?_ | ((first | refine AW.reg (by rfl) ?_ | refine AW.skip ?_ | refine AW.ret ?_ | refine AW.exit ?_); simp only [undef, aops, aop, acall, ev, ofValue, put_some, put_none, AThen, ABlock, APost, ares, oneOrTup, upd_get, entry_get, guardOf, Nat.reduceEqDiff, ↓reduceIte, List.getD_cons_zero, List.getD_cons_succ, List.getD_nil, abuild, abuildSlice, parts, zcells, Value.cells, afill, cells_agg, cells_v, cells_sl, cells_rp, cells_ifc, cells_mp, mkIfc, splice, List.map_cons, List.map_nil, List.length_cons, List.length_nil, List.take_succ_cons, List.take_zero, List.drop_succ_cons, List.drop_zero, List.take_nil, List.drop_nil, List.nil_append, List.cons_append, List.append_nil, List.getElem?_cons_zero, List.getElem?_cons_succ, List.all_cons, List.all_nil, one_v, one_sl, one_rp, one_ifc, one_mp, one_agg, Value.oneCell', Bool.and_self, Bool.and_true, Bool.true_and, true_and, and_true, Nat.reduceAdd, Nat.reduceLeDiff, Nat.reduceMul, Nat.zero_add, Nat.add_zero, Nat.le_refl, Nat.zero_le, aload, astore, abox, aalloc, abin, aint, ashift, apick, anil, anils, isNilC, aun, aconvInt, arange, anext, aentry, aassertAny, aassert2, anilm, aifeq, ainvoke, ne_eq, not_true_eq_false, not_false_eq_true, afieldAddr, afield, apart, rpart, aindexAddr, aindex, alen, aextract, aassert, amakeFunc, amakeSlice, amakeMap, alookup, amapUpdate, adelete, acopy, acopySrc, srcOf, aappend, bcells_eq, bcellsR, mcells_one, mcells_zero, List.length_replicate, List.size_toArray, Int.cast_ofNat_Int, Int.one_mul, Int.reduceToNat, Int.reduceLT, Int.reduceLE, Int.reduceMul, Int.reduceAdd, Int.reduceSub, Int.reduceNeg, Int.reduceEq, Nat.reduceLT, Nat.reduceSub, flats, amax, amin, aslice, abounds, optInt, Option.map_some, Option.map_none, Option.getD_some, Option.getD_none, Option.bind_some, Option.bind_none, Option.isSome_some, Option.isSome_none, false_imp_iff, hp_get_nil, hp_get_cons, hp_del_nil, hp_del_cons, hp_notin_nil, hp_notin_cons, hp_set_out, hp_get_out, hp_del_out, and_imp, hp_set_nil, hp_set_cons, List.map_toArray, Array.toList_map, reduceCtorEq, false_and, and_false, if_true, if_false, Bool.false_eq_true, Bool.not_true, Bool.not_false, decide_true, decide_false, implies_true, forall_const, List.length_map, qops, qop, exists_eq_left', exists_eq_left, and_assoc, exists_and_left, Int.toNat_natCast, Int.natCast_nonneg, Nat.mul_one, agg_75, elem_75, arr_75, str_75, ismap_75, agg_88, Try.results62, hlp,Ne.symm hlp]) | refine AW.block ?_ | with_reducible refine AW.condT rfl ?_ | with_reducible refine AW.condF rfl ?_)
  have hlen2 : IntKind.i64.wrap ((ps.length : Int) - 1) = (ps.length : Int) - 1 := wrap_i64 (by omega) (by omega)
  obtain ⟨S0, hS0⟩ : ∃ S0 : Hp, S0 = [(p, .cells 75 [.sl 2 (ps.map pC)] 1), (b5, .cells 29 [.v .nilIface] 1), (b4, .cells 23 [.v (.slice none 0 0)] 1), (b3, .cells 3 [.v (.int .i64 at_)] 1)] := ⟨_, rfl⟩
  obtain ⟨H, hH⟩ : ∃ H : Nat → Env → Hp → Prop, H = fun mm e' st => ∃ (i : Nat), i ≤ ps.length ∧ st = (l, .lp rec Try.f21.ntmps e) :: S0 ∧ mm = i ∧ e' 0 = .v (.func (.yield l) #[] #[]) ∧ e' 1 = .v (.pointer (some ⟨p, 0, none⟩)) ∧ e' 3 = .v (.int .i64 ((i : Int) - 1)) ∧
      (∀ j (h : j < ps.length), i ≤ j → ps[j].1 ≠ at_) := ⟨_, rfl⟩
  refine (AW.loop H ps.length ?_ ?_)
  · rw [hH, hS0]
    exact ⟨ps.length, Nat.le_refl _, rfl, rfl, rfl, rfl, by simp only [upd_get]; rw [if_pos trivial, hlen2], fun j h hj => absurd hj (by omega)⟩
  intro mm e' st hst
  rw [hH] at hst
  obtain ⟨i, hi, rfl, rfl, f0, f1, f3, hno⟩ := hst
  cases mm with
  | zero =>
    have hge : decide (0 ≤ ((0 : Nat) : Int) - 1) = false := by simp
    repeat' (first | refine AW.seq ?_ | ((first | refine AW.reg (by rfl) ?_ | refine AW.skip ?_ | refine AW.ret ?_ | refine AW.exit ?_); simp only [undef, aops, aop, acall, ev, ofValue, put_some, put_none, AThen, ABlock, APost, ares, oneOrTup, upd_get, entry_get, guardOf, Nat.reduceEqDiff, ↓reduceIte, List.getD_cons_zero, List.getD_cons_succ, List.getD_nil, abuild, abuildSlice, parts, zcells, Value.cells, afill, cells_agg, cells_v, cells_sl, cells_rp, cells_ifc, cells_mp, mkIfc, splice, List.map_cons, List.map_nil, List.length_cons, List.length_nil, List.take_succ_cons, List.take_zero, List.drop_succ_cons, List.drop_zero, List.take_nil, List.drop_nil, List.nil_append, List.cons_append, List.append_nil, List.getElem?_cons_zero, List.getElem?_cons_succ, List.all_cons, List.all_nil, one_v, one_sl, one_rp, one_ifc, one_mp, one_agg, Value.oneCell', Bool.and_self, Bool.and_true, Bool.true_and, true_and, and_true, Nat.reduceAdd, Nat.reduceLeDiff, Nat.reduceMul, Nat.zero_add, Nat.add_zero, Nat.le_refl, Nat.zero_le, aload, astore, abox, aalloc, abin, aint, ashift, apick, anil, anils, isNilC, aun, aconvInt, arange, anext, aentry, aassertAny, aassert2, anilm, aifeq, ainvoke, ne_eq, not_true_eq_false, not_false_eq_true, afieldAddr, afield, apart, rpart, aindexAddr, aindex, alen, aextract, aassert, amakeFunc, amakeSlice, amakeMap, alookup, amapUpdate, adelete, acopy, acopySrc, srcOf, aappend, bcells_eq, bcellsR, mcells_one, mcells_zero, List.length_replicate, List.size_toArray, Int.cast_ofNat_Int, Int.one_mul, Int.reduceToNat, Int.reduceLT, Int.reduceLE, Int.reduceMul, Int.reduceAdd, Int.reduceSub, Int.reduceNeg, Int.reduceEq, Nat.reduceLT, Nat.reduceSub, flats, amax, amin, aslice, abounds, optInt, Option.map_some, Option.map_none, Option.getD_some, Option.getD_none, Option.bind_some, Option.bind_none, Option.isSome_some, Option.isSome_none, false_imp_iff, hp_get_nil, hp_get_cons, hp_del_nil, hp_del_cons, hp_notin_nil, hp_notin_cons, hp_set_out, hp_get_out, hp_del_out, and_imp, hp_set_nil, hp_set_cons, List.map_toArray, Array.toList_map, reduceCtorEq, false_and, and_false, if_true, if_false, Bool.false_eq_true, Bool.not_true, Bool.not_false, decide_true, decide_false, implies_true, forall_const, List.length_map, qops, qop, exists_eq_left', exists_eq_left, and_assoc, exists_and_left, Int.toNat_natCast, Int.natCast_nonneg, Nat.mul_one, agg_75, elem_75, arr_75, str_75, ismap_75, agg_88, Try.results62, f0,f1,f3,hge]) | refine AW.block ?_ | with_reducible refine AW.condT rfl ?_ | with_reducible refine AW.condF rfl ?_)
    rw [← hQ]
    refine ⟨S0, rec, rfl, by rw [hr1]; simp, ?_⟩
    rw [hr2]
    simp only [ABlock, AThen]
    refine AW.seq ?_
    refine AW.drw 5 rfl rfl rfl ?_
    rw [hS0]
    simp only [undef, aops, aop, acall, ev, ofValue, put_some, put_none, AThen, ABlock, APost, ares, oneOrTup, upd_get, entry_get, guardOf, Nat.reduceEqDiff, ↓reduceIte, List.getD_cons_zero, List.getD_cons_succ, List.getD_nil, abuild, abuildSlice, parts, zcells, Value.cells, afill, cells_agg, cells_v, cells_sl, cells_rp, cells_ifc, cells_mp, mkIfc, splice, List.map_cons, List.map_nil, List.length_cons, List.length_nil, List.take_succ_cons, List.take_zero, List.drop_succ_cons, List.drop_zero, List.take_nil, List.drop_nil, List.nil_append, List.cons_append, List.append_nil, List.getElem?_cons_zero, List.getElem?_cons_succ, List.all_cons, List.all_nil, one_v, one_sl, one_rp, one_ifc, one_mp, one_agg, Value.oneCell', Bool.and_self, Bool.and_true, Bool.true_and, true_and, and_true, Nat.reduceAdd, Nat.reduceLeDiff, Nat.reduceMul, Nat.zero_add, Nat.add_zero, Nat.le_refl, Nat.zero_le, aload, astore, abox, aalloc, abin, aint, ashift, apick, anil, anils, isNilC, aun, aconvInt, arange, anext, aentry, aassertAny, aassert2, anilm, aifeq, ainvoke, ne_eq, not_true_eq_false, not_false_eq_true, afieldAddr, afield, apart, rpart, aindexAddr, aindex, alen, aextract, aassert, amakeFunc, amakeSlice, amakeMap, alookup, amapUpdate, adelete, acopy, acopySrc, srcOf, aappend, bcells_eq, bcellsR, mcells_one, mcells_zero, List.length_replicate, List.size_toArray, Int.cast_ofNat_Int, Int.one_mul, Int.reduceToNat, Int.reduceLT, Int.reduceLE, Int.reduceMul, Int.reduceAdd, Int.reduceSub, Int.reduceNeg, Int.reduceEq, Nat.reduceLT, Nat.reduceSub, flats, amax, amin, aslice, abounds, optInt, Option.map_some, Option.map_none, Option.getD_some, Option.getD_none, Option.bind_some, Option.bind_none, Option.isSome_some, Option.isSome_none, false_imp_iff, hp_get_nil, hp_get_cons, hp_del_nil, hp_del_cons, hp_notin_nil, hp_notin_cons, hp_set_out, hp_get_out, hp_del_out, and_imp, hp_set_nil, hp_set_cons, List.map_toArray, Array.toList_map, reduceCtorEq, false_and, and_false, if_true, if_false, Bool.false_eq_true, Bool.not_true, Bool.not_false, decide_true, decide_false, implies_true, forall_const, List.length_map, qops, qop, exists_eq_left', exists_eq_left, and_assoc, exists_and_left, Int.toNat_natCast, Int.natCast_nonneg, Nat.mul_one, agg_3, zero_23, zero_29, iface_29, issl_29, isptr_29, cmp_71, agg_23, agg_29, field_77_2, agg_75, zero_88, agg_88, field_88_0, iface_3, issl_3, isptr_3, field_88_1, field_77_1, agg_74, map_74, Try.results21, e0, e3, e4, e5, rpart, h43, h54, h53, Ne.symm h43, Ne.symm h54, Ne.symm h53, hp5, hp4, hp3, Ne.symm hp5, Ne.symm hp4, Ne.symm hp3]
    refine ⟨rfl, ?_⟩
    have hmg : Eng.mget (mC es) at_ = (Pl.pget es at_).map (fun b => .sl 1 (cel b)) := Pl.mget_gmap _ _ _
    have hlast : lastC at_ ps = none := lastC_none (fun x hx => by
      obtain ⟨j, hj, rfl⟩ := List.mem_iff_getElem.1 hx
      exact hno j hj (Nat.zero_le _))
    have fin : ∀ (b : List Int), (Pl.pget es at_).getD [] = b → ∀ (q cap : Nat) (t : Hp), 64 ≤ cap → cap ≤ maxLen → [(q, AObj.cells 5 (cel (Mac.blk b)) (cap * 1))].Sublist t → K' (.tup [.v (.slice (some ⟨q, 0, none⟩) 64 cap), .v .nilIface]) t := by
      intro b hb q cap t h1 h2 h3
      rw [hK']
      refine ⟨q, cap, _, h1, h2, rfl, rfl, ?_⟩
      unfold readC
      rw [hlast]
      simp only [hb]
      exact h3
    rw [hmg]
    cases hpg : Pl.pget es at_ with
    | none =>
      simp only [Option.map_none]
      refine whole_av_nil _ _ ?_
      intro q cap hq h64 hmx
      simp only [hp_notin_cons, hp_notin_nil, and_true] at hq
      obtain ⟨hqp, hq5, hq4, hq3⟩ := hq
      try simp only [undef, aops, aop, acall, ev, ofValue, put_some, put_none, AThen, ABlock, APost, ares, oneOrTup, upd_get, entry_get, guardOf, Nat.reduceEqDiff, ↓reduceIte, List.getD_cons_zero, List.getD_cons_succ, List.getD_nil, abuild, abuildSlice, parts, zcells, Value.cells, afill, cells_agg, cells_v, cells_sl, cells_rp, cells_ifc, cells_mp, mkIfc, splice, List.map_cons, List.map_nil, List.length_cons, List.length_nil, List.take_succ_cons, List.take_zero, List.drop_succ_cons, List.drop_zero, List.take_nil, List.drop_nil, List.nil_append, List.cons_append, List.append_nil, List.getElem?_cons_zero, List.getElem?_cons_succ, List.all_cons, List.all_nil, one_v, one_sl, one_rp, one_ifc, one_mp, one_agg, Value.oneCell', Bool.and_self, Bool.and_true, Bool.true_and, true_and, and_true, Nat.reduceAdd, Nat.reduceLeDiff, Nat.reduceMul, Nat.zero_add, Nat.add_zero, Nat.le_refl, Nat.zero_le, aload, astore, abox, aalloc, abin, aint, ashift, apick, anil, anils, isNilC, aun, aconvInt, arange, anext, aentry, aassertAny, aassert2, anilm, aifeq, ainvoke, ne_eq, not_true_eq_false, not_false_eq_true, afieldAddr, afield, apart, rpart, aindexAddr, aindex, alen, aextract, aassert, amakeFunc, amakeSlice, amakeMap, alookup, amapUpdate, adelete, acopy, acopySrc, srcOf, aappend, bcells_eq, bcellsR, mcells_one, mcells_zero, List.length_replicate, List.size_toArray, Int.cast_ofNat_Int, Int.one_mul, Int.reduceToNat, Int.reduceLT, Int.reduceLE, Int.reduceMul, Int.reduceAdd, Int.reduceSub, Int.reduceNeg, Int.reduceEq, Nat.reduceLT, Nat.reduceSub, flats, amax, amin, aslice, abounds, optInt, Option.map_some, Option.map_none, Option.getD_some, Option.getD_none, Option.bind_some, Option.bind_none, Option.isSome_some, Option.isSome_none, false_imp_iff, hp_get_nil, hp_get_cons, hp_del_nil, hp_del_cons, hp_notin_nil, hp_notin_cons, hp_set_out, hp_get_out, hp_del_out, and_imp, hp_set_nil, hp_set_cons, List.map_toArray, Array.toList_map, reduceCtorEq, false_and, and_false, if_true, if_false, Bool.false_eq_true, Bool.not_true, Bool.not_false, decide_true, decide_false, implies_true, forall_const, List.length_map, qops, qop, exists_eq_left', exists_eq_left, and_assoc, exists_and_left, Int.toNat_natCast, Int.natCast_nonneg, Nat.mul_one, agg_3, zero_23, zero_29, iface_29, issl_29, isptr_29, cmp_71, agg_23, agg_29, field_77_2, agg_75, zero_88, agg_88, field_88_0, iface_3, issl_3, isptr_3, field_88_1, field_77_1, agg_74, map_74, Try.results21, e0,e3,e4,e5,rpart,h43,h54,h53,Ne.symm h43,Ne.symm h54,Ne.symm h53,hp5,hp4,hp3,Ne.symm hp5,Ne.symm hp4,Ne.symm hp3,hqp,hq5,hq4,hq3,Ne.symm hqp,Ne.symm hq5,Ne.symm hq4,Ne.symm hq3]
      repeat' (first | refine AW.seq ?_ | ((first | refine AW.reg (by rfl) ?_ | refine AW.skip ?_ | refine AW.ret ?_ | refine AW.exit ?_); simp only [undef, aops, aop, acall, ev, ofValue, put_some, put_none, AThen, ABlock, APost, ares, oneOrTup, upd_get, entry_get, guardOf, Nat.reduceEqDiff, ↓reduceIte, List.getD_cons_zero, List.getD_cons_succ, List.getD_nil, abuild, abuildSlice, parts, zcells, Value.cells, afill, cells_agg, cells_v, cells_sl, cells_rp, cells_ifc, cells_mp, mkIfc, splice, List.map_cons, List.map_nil, List.length_cons, List.length_nil, List.take_succ_cons, List.take_zero, List.drop_succ_cons, List.drop_zero, List.take_nil, List.drop_nil, List.nil_append, List.cons_append, List.append_nil, List.getElem?_cons_zero, List.getElem?_cons_succ, List.all_cons, List.all_nil, one_v, one_sl, one_rp, one_ifc, one_mp, one_agg, Value.oneCell', Bool.and_self, Bool.and_true, Bool.true_and, true_and, and_true, Nat.reduceAdd, Nat.reduceLeDiff, Nat.reduceMul, Nat.zero_add, Nat.add_zero, Nat.le_refl, Nat.zero_le, aload, astore, abox, aalloc, abin, aint, ashift, apick, anil, anils, isNilC, aun, aconvInt, arange, anext, aentry, aassertAny, aassert2, anilm, aifeq, ainvoke, ne_eq, not_true_eq_false, not_false_eq_true, afieldAddr, afield, apart, rpart, aindexAddr, aindex, alen, aextract, aassert, amakeFunc, amakeSlice, amakeMap, alookup, amapUpdate, adelete, acopy, acopySrc, srcOf, aappend, bcells_eq, bcellsR, mcells_one, mcells_zero, List.length_replicate, List.size_toArray, Int.cast_ofNat_Int, Int.one_mul, Int.reduceToNat, Int.reduceLT, Int.reduceLE, Int.reduceMul, Int.reduceAdd, Int.reduceSub, Int.reduceNeg, Int.reduceEq, Nat.reduceLT, Nat.reduceSub, flats, amax, amin, aslice, abounds, optInt, Option.map_some, Option.map_none, Option.getD_some, Option.getD_none, Option.bind_some, Option.bind_none, Option.isSome_some, Option.isSome_none, false_imp_iff, hp_get_nil, hp_get_cons, hp_del_nil, hp_del_cons, hp_notin_nil, hp_notin_cons, hp_set_out, hp_get_out, hp_del_out, and_imp, hp_set_nil, hp_set_cons, List.map_toArray, Array.toList_map, reduceCtorEq, false_and, and_false, if_true, if_false, Bool.false_eq_true, Bool.not_true, Bool.not_false, decide_true, decide_false, implies_true, forall_const, List.length_map, qops, qop, exists_eq_left', exists_eq_left, and_assoc, exists_and_left, Int.toNat_natCast, Int.natCast_nonneg, Nat.mul_one, agg_3, zero_23, zero_29, iface_29, issl_29, isptr_29, cmp_71, agg_23, agg_29, field_77_2, agg_75, zero_88, agg_88, field_88_0, iface_3, issl_3, isptr_3, field_88_1, field_77_1, agg_74, map_74, Try.results21, e0,e3,e4,e5,rpart,h43,h54,h53,Ne.symm h43,Ne.symm h54,Ne.symm h53,hp5,hp4,hp3,Ne.symm hp5,Ne.symm hp4,Ne.symm hp3,hqp,hq5,hq4,hq3,Ne.symm hqp,Ne.symm hq5,Ne.symm hq4,Ne.symm hq3]) | refine AW.block ?_ | with_reducible refine AW.condT rfl ?_ | with_reducible refine AW.condF rfl ?_)
      refine fin [] (by rw [hpg]; rfl) q cap _ h64 hmx ?_
      rw [Nat.mul_one]
      exact .cons_cons _ (List.nil_sublist _)
    | some bb =>
      simp only [Option.map_some]
      refine whole_av bb _ _ ?_
      intro q cap hq h64 hmx
      simp only [hp_notin_cons, hp_notin_nil, and_true] at hq
      obtain ⟨hqp, hq5, hq4, hq3⟩ := hq
      try simp only [undef, aops, aop, acall, ev, ofValue, put_some, put_none, AThen, ABlock, APost, ares, oneOrTup, upd_get, entry_get, guardOf, Nat.reduceEqDiff, ↓reduceIte, List.getD_cons_zero, List.getD_cons_succ, List.getD_nil, abuild, abuildSlice, parts, zcells, Value.cells, afill, cells_agg, cells_v, cells_sl, cells_rp, cells_ifc, cells_mp, mkIfc, splice, List.map_cons, List.map_nil, List.length_cons, List.length_nil, List.take_succ_cons, List.take_zero, List.drop_succ_cons, List.drop_zero, List.take_nil, List.drop_nil, List.nil_append, List.cons_append, List.append_nil, List.getElem?_cons_zero, List.getElem?_cons_succ, List.all_cons, List.all_nil, one_v, one_sl, one_rp, one_ifc, one_mp, one_agg, Value.oneCell', Bool.and_self, Bool.and_true, Bool.true_and, true_and, and_true, Nat.reduceAdd, Nat.reduceLeDiff, Nat.reduceMul, Nat.zero_add, Nat.add_zero, Nat.le_refl, Nat.zero_le, aload, astore, abox, aalloc, abin, aint, ashift, apick, anil, anils, isNilC, aun, aconvInt, arange, anext, aentry, aassertAny, aassert2, anilm, aifeq, ainvoke, ne_eq, not_true_eq_false, not_false_eq_true, afieldAddr, afield, apart, rpart, aindexAddr, aindex, alen, aextract, aassert, amakeFunc, amakeSlice, amakeMap, alookup, amapUpdate, adelete, acopy, acopySrc, srcOf, aappend, bcells_eq, bcellsR, mcells_one, mcells_zero, List.length_replicate, List.size_toArray, Int.cast_ofNat_Int, Int.one_mul, Int.reduceToNat, Int.reduceLT, Int.reduceLE, Int.reduceMul, Int.reduceAdd, Int.reduceSub, Int.reduceNeg, Int.reduceEq, Nat.reduceLT, Nat.reduceSub, flats, amax, amin, aslice, abounds, optInt, Option.map_some, Option.map_none, Option.getD_some, Option.getD_none, Option.bind_some, Option.bind_none, Option.isSome_some, Option.isSome_none, false_imp_iff, hp_get_nil, hp_get_cons, hp_del_nil, hp_del_cons, hp_notin_nil, hp_notin_cons, hp_set_out, hp_get_out, hp_del_out, and_imp, hp_set_nil, hp_set_cons, List.map_toArray, Array.toList_map, reduceCtorEq, false_and, and_false, if_true, if_false, Bool.false_eq_true, Bool.not_true, Bool.not_false, decide_true, decide_false, implies_true, forall_const, List.length_map, qops, qop, exists_eq_left', exists_eq_left, and_assoc, exists_and_left, Int.toNat_natCast, Int.natCast_nonneg, Nat.mul_one, agg_3, zero_23, zero_29, iface_29, issl_29, isptr_29, cmp_71, agg_23, agg_29, field_77_2, agg_75, zero_88, agg_88, field_88_0, iface_3, issl_3, isptr_3, field_88_1, field_77_1, agg_74, map_74, Try.results21, e0,e3,e4,e5,rpart,h43,h54,h53,Ne.symm h43,Ne.symm h54,Ne.symm h53,hp5,hp4,hp3,Ne.symm hp5,Ne.symm hp4,Ne.symm hp3,hqp,hq5,hq4,hq3,Ne.symm hqp,Ne.symm hq5,Ne.symm hq4,Ne.symm hq3]
      repeat' (first | refine AW.seq ?_ | ((first | refine AW.reg (by rfl) ?_ | refine AW.skip ?_ | refine AW.ret ?_ | refine AW.exit ?_); simp only [undef, aops, aop, acall, ev, ofValue, put_some, put_none, AThen, ABlock, APost, ares, oneOrTup, upd_get, entry_get, guardOf, Nat.reduceEqDiff, ↓reduceIte, List.getD_cons_zero, List.getD_cons_succ, List.getD_nil, abuild, abuildSlice, parts, zcells, Value.cells, afill, cells_agg, cells_v, cells_sl, cells_rp, cells_ifc, cells_mp, mkIfc, splice, List.map_cons, List.map_nil, List.length_cons, List.length_nil, List.take_succ_cons, List.take_zero, List.drop_succ_cons, List.drop_zero, List.take_nil, List.drop_nil, List.nil_append, List.cons_append, List.append_nil, List.getElem?_cons_zero, List.getElem?_cons_succ, List.all_cons, List.all_nil, one_v, one_sl, one_rp, one_ifc, one_mp, one_agg, Value.oneCell', Bool.and_self, Bool.and_true, Bool.true_and, true_and, and_true, Nat.reduceAdd, Nat.reduceLeDiff, Nat.reduceMul, Nat.zero_add, Nat.add_zero, Nat.le_refl, Nat.zero_le, aload, astore, abox, aalloc, abin, aint, ashift, apick, anil, anils, isNilC, aun, aconvInt, arange, anext, aentry, aassertAny, aassert2, anilm, aifeq, ainvoke, ne_eq, not_true_eq_false, not_false_eq_true, afieldAddr, afield, apart, rpart, aindexAddr, aindex, alen, aextract, aassert, amakeFunc, amakeSlice, amakeMap, alookup, amapUpdate, adelete, acopy, acopySrc, srcOf, aappend, bcells_eq, bcellsR, mcells_one, mcells_zero, List.length_replicate, List.size_toArray, Int.cast_ofNat_Int, Int.one_mul, Int.reduceToNat, Int.reduceLT, Int.reduceLE, Int.reduceMul, Int.reduceAdd, Int.reduceSub, Int.reduceNeg, Int.reduceEq, Nat.reduceLT, Nat.reduceSub, flats, amax, amin, aslice, abounds, optInt, Option.map_some, Option.map_none, Option.getD_some, Option.getD_none, Option.bind_some, Option.bind_none, Option.isSome_some, Option.isSome_none, false_imp_iff, hp_get_nil, hp_get_cons, hp_del_nil, hp_del_cons, hp_notin_nil, hp_notin_cons, hp_set_out, hp_get_out, hp_del_out, and_imp, hp_set_nil, hp_set_cons, List.map_toArray, Array.toList_map, reduceCtorEq, false_and, and_false, if_true, if_false, Bool.false_eq_true, Bool.not_true, Bool.not_false, decide_true, decide_false, implies_true, forall_const, List.length_map, qops, qop, exists_eq_left', exists_eq_left, and_assoc, exists_and_left, Int.toNat_natCast, Int.natCast_nonneg, Nat.mul_one, agg_3, zero_23, zero_29, iface_29, issl_29, isptr_29, cmp_71, agg_23, agg_29, field_77_2, agg_75, zero_88, agg_88, field_88_0, iface_3, issl_3, isptr_3, field_88_1, field_77_1, agg_74, map_74, Try.results21, e0,e3,e4,e5,rpart,h43,h54,h53,Ne.symm h43,Ne.symm h54,Ne.symm h53,hp5,hp4,hp3,Ne.symm hp5,Ne.symm hp4,Ne.symm hp3,hqp,hq5,hq4,hq3,Ne.symm hqp,Ne.symm hq5,Ne.symm hq4,Ne.symm hq3]) | refine AW.block ?_ | with_reducible refine AW.condT rfl ?_ | with_reducible refine AW.condF rfl ?_)
      refine fin bb (by rw [hpg]; rfl) q cap _ h64 hmx ?_
      rw [Nat.mul_one]
      exact .cons_cons _ (List.nil_sublist _)
  | succ i =>
    have hge : decide (0 ≤ ((i + 1 : Nat) : Int) - 1) = true := by simp
    refine AW.seq ?_
    refine AW.seq ?_
    refine AW.reg (by rfl) ?_
    simp only [undef, aops, aop, acall, ev, ofValue, put_some, put_none, AThen, ABlock, APost, ares, oneOrTup, upd_get, entry_get, guardOf, Nat.reduceEqDiff, ↓reduceIte, List.getD_cons_zero, List.getD_cons_succ, List.getD_nil, abuild, abuildSlice, parts, zcells, Value.cells, afill, cells_agg, cells_v, cells_sl, cells_rp, cells_ifc, cells_mp, mkIfc, splice, List.map_cons, List.map_nil, List.length_cons, List.length_nil, List.take_succ_cons, List.take_zero, List.drop_succ_cons, List.drop_zero, List.take_nil, List.drop_nil, List.nil_append, List.cons_append, List.append_nil, List.getElem?_cons_zero, List.getElem?_cons_succ, List.all_cons, List.all_nil, one_v, one_sl, one_rp, one_ifc, one_mp, one_agg, Value.oneCell', Bool.and_self, Bool.and_true, Bool.true_and, true_and, and_true, Nat.reduceAdd, Nat.reduceLeDiff, Nat.reduceMul, Nat.zero_add, Nat.add_zero, Nat.le_refl, Nat.zero_le, aload, astore, abox, aalloc, abin, aint, ashift, apick, anil, anils, isNilC, aun, aconvInt, arange, anext, aentry, aassertAny, aassert2, anilm, aifeq, ainvoke, ne_eq, not_true_eq_false, not_false_eq_true, afieldAddr, afield, apart, rpart, aindexAddr, aindex, alen, aextract, aassert, amakeFunc, amakeSlice, amakeMap, alookup, amapUpdate, adelete, acopy, acopySrc, srcOf, aappend, bcells_eq, bcellsR, mcells_one, mcells_zero, List.length_replicate, List.size_toArray, Int.cast_ofNat_Int, Int.one_mul, Int.reduceToNat, Int.reduceLT, Int.reduceLE, Int.reduceMul, Int.reduceAdd, Int.reduceSub, Int.reduceNeg, Int.reduceEq, Nat.reduceLT, Nat.reduceSub, flats, amax, amin, aslice, abounds, optInt, Option.map_some, Option.map_none, Option.getD_some, Option.getD_none, Option.bind_some, Option.bind_none, Option.isSome_some, Option.isSome_none, false_imp_iff, hp_get_nil, hp_get_cons, hp_del_nil, hp_del_cons, hp_notin_nil, hp_notin_cons, hp_set_out, hp_get_out, hp_del_out, and_imp, hp_set_nil, hp_set_cons, List.map_toArray, Array.toList_map, reduceCtorEq, false_and, and_false, if_true, if_false, Bool.false_eq_true, Bool.not_true, Bool.not_false, decide_true, decide_false, implies_true, forall_const, List.length_map, qops, qop, exists_eq_left', exists_eq_left, and_assoc, exists_and_left, Int.toNat_natCast, Int.natCast_nonneg, Nat.mul_one, f0, f1, f3]
    refine AW.condT (by simp only [ev, upd_get, if_true]; rw [hge]) ?_
    refine AW.skip ?_
    simp only [AThen]
    refine AW.seq ?_
    refine AW.block ?_
    refine AW.seq ?_
    refine AW.yield 6 (by rfl) ?_
    have hlt : i < ps.length := by omega
    have hidx : (((i + 1 : Nat) : Int) - 1).toNat = i := by omega
    have hat : (ps.map pC).getD i default = .agg [.v (.int .i64 ps[i].1), optC ps[i].2] := by rw [List.getD_eq_getElem?_getD, List.getElem?_map, List.getElem?_eq_getElem hlt]; rfl
    rw [hS0]
    simp only [ayield, List.take, List.drop, undef, aops, aop, acall, ev, ofValue, put_some, put_none, AThen, ABlock, APost, ares, oneOrTup, upd_get, entry_get, guardOf, Nat.reduceEqDiff, ↓reduceIte, List.getD_cons_zero, List.getD_cons_succ, List.getD_nil, abuild, abuildSlice, parts, zcells, Value.cells, afill, cells_agg, cells_v, cells_sl, cells_rp, cells_ifc, cells_mp, mkIfc, splice, List.map_cons, List.map_nil, List.length_cons, List.length_nil, List.take_succ_cons, List.take_zero, List.drop_succ_cons, List.drop_zero, List.take_nil, List.drop_nil, List.nil_append, List.cons_append, List.append_nil, List.getElem?_cons_zero, List.getElem?_cons_succ, List.all_cons, List.all_nil, one_v, one_sl, one_rp, one_ifc, one_mp, one_agg, Value.oneCell', Bool.and_self, Bool.and_true, Bool.true_and, true_and, and_true, Nat.reduceAdd, Nat.reduceLeDiff, Nat.reduceMul, Nat.zero_add, Nat.add_zero, Nat.le_refl, Nat.zero_le, aload, astore, abox, aalloc, abin, aint, ashift, apick, anil, anils, isNilC, aun, aconvInt, arange, anext, aentry, aassertAny, aassert2, anilm, aifeq, ainvoke, ne_eq, not_true_eq_false, not_false_eq_true, afieldAddr, afield, apart, rpart, aindexAddr, aindex, alen, aextract, aassert, amakeFunc, amakeSlice, amakeMap, alookup, amapUpdate, adelete, acopy, acopySrc, srcOf, aappend, bcells_eq, bcellsR, mcells_one, mcells_zero, List.length_replicate, List.size_toArray, Int.cast_ofNat_Int, Int.one_mul, Int.reduceToNat, Int.reduceLT, Int.reduceLE, Int.reduceMul, Int.reduceAdd, Int.reduceSub, Int.reduceNeg, Int.reduceEq, Nat.reduceLT, Nat.reduceSub, flats, amax, amin, aslice, abounds, optInt, Option.map_some, Option.map_none, Option.getD_some, Option.getD_none, Option.bind_some, Option.bind_none, Option.isSome_some, Option.isSome_none, false_imp_iff, hp_get_nil, hp_get_cons, hp_del_nil, hp_del_cons, hp_notin_nil, hp_notin_cons, hp_set_out, hp_get_out, hp_del_out, and_imp, hp_set_nil, hp_set_cons, List.map_toArray, Array.toList_map, reduceCtorEq, false_and, and_false, if_true, if_false, Bool.false_eq_true, Bool.not_true, Bool.not_false, decide_true, decide_false, implies_true, forall_const, List.length_map, qops, qop, exists_eq_left', exists_eq_left, and_assoc, exists_and_left, Int.toNat_natCast, Int.natCast_nonneg, Nat.mul_one, agg_75, elem_75, arr_75, str_75, ismap_75, agg_88, Try.results62, f0, f1, f3, hlp, hl5, hl4, hl3, Ne.symm hlp, Ne.symm hl5, Ne.symm hl4, Ne.symm hl3, hidx, hat]
    refine ⟨by omega, by omega, l, rfl, ?_⟩
    refine YieldS.of hr1 hr2 (by rw [hr3]; rfl) (by rw [hr3]; simp [Try.ntmps21]) ?_
    rw [hr4, hr3, hr5]
    simp only [putAll]
    repeat' (first | refine AW.seq ?_ | ((first | refine AW.reg (by rfl) ?_ | refine AW.skip ?_ | refine AW.ret ?_ | refine AW.exit ?_); simp only [undef, aops, aop, acall, ev, ofValue, put_some, put_none, AThen, ABlock, APost, ares, oneOrTup, upd_get, entry_get, guardOf, Nat.reduceEqDiff, ↓reduceIte, List.getD_cons_zero, List.getD_cons_succ, List.getD_nil, abuild, abuildSlice, parts, zcells, Value.cells, afill, cells_agg, cells_v, cells_sl, cells_rp, cells_ifc, cells_mp, mkIfc, splice, List.map_cons, List.map_nil, List.length_cons, List.length_nil, List.take_succ_cons, List.take_zero, List.drop_succ_cons, List.drop_zero, List.take_nil, List.drop_nil, List.nil_append, List.cons_append, List.append_nil, List.getElem?_cons_zero, List.getElem?_cons_succ, List.all_cons, List.all_nil, one_v, one_sl, one_rp, one_ifc, one_mp, one_agg, Value.oneCell', Bool.and_self, Bool.and_true, Bool.true_and, true_and, and_true, Nat.reduceAdd, Nat.reduceLeDiff, Nat.reduceMul, Nat.zero_add, Nat.add_zero, Nat.le_refl, Nat.zero_le, aload, astore, abox, aalloc, abin, aint, ashift, apick, anil, anils, isNilC, aun, aconvInt, arange, anext, aentry, aassertAny, aassert2, anilm, aifeq, ainvoke, ne_eq, not_true_eq_false, not_false_eq_true, afieldAddr, afield, apart, rpart, aindexAddr, aindex, alen, aextract, aassert, amakeFunc, amakeSlice, amakeMap, alookup, amapUpdate, adelete, acopy, acopySrc, srcOf, aappend, bcells_eq, bcellsR, mcells_one, mcells_zero, List.length_replicate, List.size_toArray, Int.cast_ofNat_Int, Int.one_mul, Int.reduceToNat, Int.reduceLT, Int.reduceLE, Int.reduceMul, Int.reduceAdd, Int.reduceSub, Int.reduceNeg, Int.reduceEq, Nat.reduceLT, Nat.reduceSub, flats, amax, amin, aslice, abounds, optInt, Option.map_some, Option.map_none, Option.getD_some, Option.getD_none, Option.bind_some, Option.bind_none, Option.isSome_some, Option.isSome_none, false_imp_iff, hp_get_nil, hp_get_cons, hp_del_nil, hp_del_cons, hp_notin_nil, hp_notin_cons, hp_set_out, hp_get_out, hp_del_out, and_imp, hp_set_nil, hp_set_cons, List.map_toArray, Array.toList_map, reduceCtorEq, false_and, and_false, if_true, if_false, Bool.false_eq_true, Bool.not_true, Bool.not_false, decide_true, decide_false, implies_true, forall_const, List.length_map, qops, qop, exists_eq_left', exists_eq_left, and_assoc, exists_and_left, Int.toNat_natCast, Int.natCast_nonneg, Nat.mul_one, agg_3, zero_23, zero_29, iface_29, issl_29, isptr_29, cmp_71, agg_23, agg_29, field_77_2, agg_75, zero_88, agg_88, field_88_0, iface_3, issl_3, isptr_3, field_88_1, field_77_1, agg_74, map_74, Try.results21, e0,e3,e4,e5,optC_one,h43,h54,h53,Ne.symm h43,Ne.symm h54,Ne.symm h53,hp5,hp4,hp3,Ne.symm hp5,Ne.symm hp4,Ne.symm hp3]) | refine AW.block ?_ | with_reducible refine AW.condT rfl ?_ | with_reducible refine AW.condF rfl ?_)
    intro b8 h8p h85 h84 h83
    by_cases he : ps[i].1 = at_
    · have hd : (ps[i].1 == at_) = true := by simpa using he
      have hd2 : decide (ps[i].1 = at_) = true := by simpa using he
      repeat' (first | refine AW.seq ?_ | ((first | refine AW.reg (by rfl) ?_ | refine AW.skip ?_ | refine AW.ret ?_ | refine AW.exit ?_); simp only [undef, aops, aop, acall, ev, ofValue, put_some, put_none, AThen, ABlock, APost, ares, oneOrTup, upd_get, entry_get, guardOf, Nat.reduceEqDiff, ↓reduceIte, List.getD_cons_zero, List.getD_cons_succ, List.getD_nil, abuild, abuildSlice, parts, zcells, Value.cells, afill, cells_agg, cells_v, cells_sl, cells_rp, cells_ifc, cells_mp, mkIfc, splice, List.map_cons, List.map_nil, List.length_cons, List.length_nil, List.take_succ_cons, List.take_zero, List.drop_succ_cons, List.drop_zero, List.take_nil, List.drop_nil, List.nil_append, List.cons_append, List.append_nil, List.getElem?_cons_zero, List.getElem?_cons_succ, List.all_cons, List.all_nil, one_v, one_sl, one_rp, one_ifc, one_mp, one_agg, Value.oneCell', Bool.and_self, Bool.and_true, Bool.true_and, true_and, and_true, Nat.reduceAdd, Nat.reduceLeDiff, Nat.reduceMul, Nat.zero_add, Nat.add_zero, Nat.le_refl, Nat.zero_le, aload, astore, abox, aalloc, abin, aint, ashift, apick, anil, anils, isNilC, aun, aconvInt, arange, anext, aentry, aassertAny, aassert2, anilm, aifeq, ainvoke, ne_eq, not_true_eq_false, not_false_eq_true, afieldAddr, afield, apart, rpart, aindexAddr, aindex, alen, aextract, aassert, amakeFunc, amakeSlice, amakeMap, alookup, amapUpdate, adelete, acopy, acopySrc, srcOf, aappend, bcells_eq, bcellsR, mcells_one, mcells_zero, List.length_replicate, List.size_toArray, Int.cast_ofNat_Int, Int.one_mul, Int.reduceToNat, Int.reduceLT, Int.reduceLE, Int.reduceMul, Int.reduceAdd, Int.reduceSub, Int.reduceNeg, Int.reduceEq, Nat.reduceLT, Nat.reduceSub, flats, amax, amin, aslice, abounds, optInt, Option.map_some, Option.map_none, Option.getD_some, Option.getD_none, Option.bind_some, Option.bind_none, Option.isSome_some, Option.isSome_none, false_imp_iff, hp_get_nil, hp_get_cons, hp_del_nil, hp_del_cons, hp_notin_nil, hp_notin_cons, hp_set_out, hp_get_out, hp_del_out, and_imp, hp_set_nil, hp_set_cons, List.map_toArray, Array.toList_map, reduceCtorEq, false_and, and_false, if_true, if_false, Bool.false_eq_true, Bool.not_true, Bool.not_false, decide_true, decide_false, implies_true, forall_const, List.length_map, qops, qop, exists_eq_left', exists_eq_left, and_assoc, exists_and_left, Int.toNat_natCast, Int.natCast_nonneg, Nat.mul_one, agg_3, zero_23, zero_29, iface_29, issl_29, isptr_29, cmp_71, agg_23, agg_29, field_77_2, agg_75, zero_88, agg_88, field_88_0, iface_3, issl_3, isptr_3, field_88_1, field_77_1, agg_74, map_74, Try.results21, e0,e3,e4,e5,optC_one,h43,h54,h53,Ne.symm h43,Ne.symm h54,Ne.symm h53,hp5,hp4,hp3,Ne.symm hp5,Ne.symm hp4,Ne.symm hp3,h8p,h85,h84,h83,Ne.symm h8p,Ne.symm h85,Ne.symm h84,Ne.symm h83,hd,hd2]) | refine AW.block ?_ | with_reducible refine AW.condT rfl ?_ | with_reducible refine AW.condF rfl ?_)
      refine whole_any _ _ _ ?_
      intro q cap hq h64 hmx
      simp only [hp_notin_cons, hp_notin_nil, and_true] at hq
      obtain ⟨hq8, hqp, hq5, hq4, hq3⟩ := hq
      try simp only [undef, aops, aop, acall, ev, ofValue, put_some, put_none, AThen, ABlock, APost, ares, oneOrTup, upd_get, entry_get, guardOf, Nat.reduceEqDiff, ↓reduceIte, List.getD_cons_zero, List.getD_cons_succ, List.getD_nil, abuild, abuildSlice, parts, zcells, Value.cells, afill, cells_agg, cells_v, cells_sl, cells_rp, cells_ifc, cells_mp, mkIfc, splice, List.map_cons, List.map_nil, List.length_cons, List.length_nil, List.take_succ_cons, List.take_zero, List.drop_succ_cons, List.drop_zero, List.take_nil, List.drop_nil, List.nil_append, List.cons_append, List.append_nil, List.getElem?_cons_zero, List.getElem?_cons_succ, List.all_cons, List.all_nil, one_v, one_sl, one_rp, one_ifc, one_mp, one_agg, Value.oneCell', Bool.and_self, Bool.and_true, Bool.true_and, true_and, and_true, Nat.reduceAdd, Nat.reduceLeDiff, Nat.reduceMul, Nat.zero_add, Nat.add_zero, Nat.le_refl, Nat.zero_le, aload, astore, abox, aalloc, abin, aint, ashift, apick, anil, anils, isNilC, aun, aconvInt, arange, anext, aentry, aassertAny, aassert2, anilm, aifeq, ainvoke, ne_eq, not_true_eq_false, not_false_eq_true, afieldAddr, afield, apart, rpart, aindexAddr, aindex, alen, aextract, aassert, amakeFunc, amakeSlice, amakeMap, alookup, amapUpdate, adelete, acopy, acopySrc, srcOf, aappend, bcells_eq, bcellsR, mcells_one, mcells_zero, List.length_replicate, List.size_toArray, Int.cast_ofNat_Int, Int.one_mul, Int.reduceToNat, Int.reduceLT, Int.reduceLE, Int.reduceMul, Int.reduceAdd, Int.reduceSub, Int.reduceNeg, Int.reduceEq, Nat.reduceLT, Nat.reduceSub, flats, amax, amin, aslice, abounds, optInt, Option.map_some, Option.map_none, Option.getD_some, Option.getD_none, Option.bind_some, Option.bind_none, Option.isSome_some, Option.isSome_none, false_imp_iff, hp_get_nil, hp_get_cons, hp_del_nil, hp_del_cons, hp_notin_nil, hp_notin_cons, hp_set_out, hp_get_out, hp_del_out, and_imp, hp_set_nil, hp_set_cons, List.map_toArray, Array.toList_map, reduceCtorEq, false_and, and_false, if_true, if_false, Bool.false_eq_true, Bool.not_true, Bool.not_false, decide_true, decide_false, implies_true, forall_const, List.length_map, qops, qop, exists_eq_left', exists_eq_left, and_assoc, exists_and_left, Int.toNat_natCast, Int.natCast_nonneg, Nat.mul_one, agg_3, zero_23, zero_29, iface_29, issl_29, isptr_29, cmp_71, agg_23, agg_29, field_77_2, agg_75, zero_88, agg_88, field_88_0, iface_3, issl_3, isptr_3, field_88_1, field_77_1, agg_74, map_74, Try.results21, e0,e3,e4,e5,optC_one,h43,h54,h53,Ne.symm h43,Ne.symm h54,Ne.symm h53,hp5,hp4,hp3,Ne.symm hp5,Ne.symm hp4,Ne.symm hp3,h8p,h85,h84,h83,Ne.symm h8p,Ne.symm h85,Ne.symm h84,Ne.symm h83,hq8,hqp,hq5,hq4,hq3,Ne.symm hq8,Ne.symm hqp,Ne.symm hq5,Ne.symm hq4,Ne.symm hq3]
      repeat' (first | refine AW.seq ?_ | ((first | refine AW.reg (by rfl) ?_ | refine AW.skip ?_ | refine AW.ret ?_ | refine AW.exit ?_); simp only [undef, aops, aop, acall, ev, ofValue, put_some, put_none, AThen, ABlock, APost, ares, oneOrTup, upd_get, entry_get, guardOf, Nat.reduceEqDiff, ↓reduceIte, List.getD_cons_zero, List.getD_cons_succ, List.getD_nil, abuild, abuildSlice, parts, zcells, Value.cells, afill, cells_agg, cells_v, cells_sl, cells_rp, cells_ifc, cells_mp, mkIfc, splice, List.map_cons, List.map_nil, List.length_cons, List.length_nil, List.take_succ_cons, List.take_zero, List.drop_succ_cons, List.drop_zero, List.take_nil, List.drop_nil, List.nil_append, List.cons_append, List.append_nil, List.getElem?_cons_zero, List.getElem?_cons_succ, List.all_cons, List.all_nil, one_v, one_sl, one_rp, one_ifc, one_mp, one_agg, Value.oneCell', Bool.and_self, Bool.and_true, Bool.true_and, true_and, and_true, Nat.reduceAdd, Nat.reduceLeDiff, Nat.reduceMul, Nat.zero_add, Nat.add_zero, Nat.le_refl, Nat.zero_le, aload, astore, abox, aalloc, abin, aint, ashift, apick, anil, anils, isNilC, aun, aconvInt, arange, anext, aentry, aassertAny, aassert2, anilm, aifeq, ainvoke, ne_eq, not_true_eq_false, not_false_eq_true, afieldAddr, afield, apart, rpart, aindexAddr, aindex, alen, aextract, aassert, amakeFunc, amakeSlice, amakeMap, alookup, amapUpdate, adelete, acopy, acopySrc, srcOf, aappend, bcells_eq, bcellsR, mcells_one, mcells_zero, List.length_replicate, List.size_toArray, Int.cast_ofNat_Int, Int.one_mul, Int.reduceToNat, Int.reduceLT, Int.reduceLE, Int.reduceMul, Int.reduceAdd, Int.reduceSub, Int.reduceNeg, Int.reduceEq, Nat.reduceLT, Nat.reduceSub, flats, amax, amin, aslice, abounds, optInt, Option.map_some, Option.map_none, Option.getD_some, Option.getD_none, Option.bind_some, Option.bind_none, Option.isSome_some, Option.isSome_none, false_imp_iff, hp_get_nil, hp_get_cons, hp_del_nil, hp_del_cons, hp_notin_nil, hp_notin_cons, hp_set_out, hp_get_out, hp_del_out, and_imp, hp_set_nil, hp_set_cons, List.map_toArray, Array.toList_map, reduceCtorEq, false_and, and_false, if_true, if_false, Bool.false_eq_true, Bool.not_true, Bool.not_false, decide_true, decide_false, implies_true, forall_const, List.length_map, qops, qop, exists_eq_left', exists_eq_left, and_assoc, exists_and_left, Int.toNat_natCast, Int.natCast_nonneg, Nat.mul_one, agg_3, zero_23, zero_29, iface_29, issl_29, isptr_29, cmp_71, agg_23, agg_29, field_77_2, agg_75, zero_88, agg_88, field_88_0, iface_3, issl_3, isptr_3, field_88_1, field_77_1, agg_74, map_74, Try.results21, e0,e3,e4,e5,optC_one,h43,h54,h53,Ne.symm h43,Ne.symm h54,Ne.symm h53,hp5,hp4,hp3,Ne.symm hp5,Ne.symm hp4,Ne.symm hp3,h8p,h85,h84,h83,Ne.symm h8p,Ne.symm h85,Ne.symm h84,Ne.symm h83,hq8,hqp,hq5,hq4,hq3,Ne.symm hq8,Ne.symm hqp,Ne.symm hq5,Ne.symm hq4,Ne.symm hq3]) | refine AW.block ?_ | with_reducible refine AW.condT rfl ?_ | with_reducible refine AW.condF rfl ?_)
      simp only [YEnd]
      try simp only [undef, aops, aop, acall, ev, ofValue, put_some, put_none, AThen, ABlock, APost, ares, oneOrTup, upd_get, entry_get, guardOf, Nat.reduceEqDiff, ↓reduceIte, List.getD_cons_zero, List.getD_cons_succ, List.getD_nil, abuild, abuildSlice, parts, zcells, Value.cells, afill, cells_agg, cells_v, cells_sl, cells_rp, cells_ifc, cells_mp, mkIfc, splice, List.map_cons, List.map_nil, List.length_cons, List.length_nil, List.take_succ_cons, List.take_zero, List.drop_succ_cons, List.drop_zero, List.take_nil, List.drop_nil, List.nil_append, List.cons_append, List.append_nil, List.getElem?_cons_zero, List.getElem?_cons_succ, List.all_cons, List.all_nil, one_v, one_sl, one_rp, one_ifc, one_mp, one_agg, Value.oneCell', Bool.and_self, Bool.and_true, Bool.true_and, true_and, and_true, Nat.reduceAdd, Nat.reduceLeDiff, Nat.reduceMul, Nat.zero_add, Nat.add_zero, Nat.le_refl, Nat.zero_le, aload, astore, abox, aalloc, abin, aint, ashift, apick, anil, anils, isNilC, aun, aconvInt, arange, anext, aentry, aassertAny, aassert2, anilm, aifeq, ainvoke, ne_eq, not_true_eq_false, not_false_eq_true, afieldAddr, afield, apart, rpart, aindexAddr, aindex, alen, aextract, aassert, amakeFunc, amakeSlice, amakeMap, alookup, amapUpdate, adelete, acopy, acopySrc, srcOf, aappend, bcells_eq, bcellsR, mcells_one, mcells_zero, List.length_replicate, List.size_toArray, Int.cast_ofNat_Int, Int.one_mul, Int.reduceToNat, Int.reduceLT, Int.reduceLE, Int.reduceMul, Int.reduceAdd, Int.reduceSub, Int.reduceNeg, Int.reduceEq, Nat.reduceLT, Nat.reduceSub, flats, amax, amin, aslice, abounds, optInt, Option.map_some, Option.map_none, Option.getD_some, Option.getD_none, Option.bind_some, Option.bind_none, Option.isSome_some, Option.isSome_none, false_imp_iff, hp_get_nil, hp_get_cons, hp_del_nil, hp_del_cons, hp_notin_nil, hp_notin_cons, hp_set_out, hp_get_out, hp_del_out, and_imp, hp_set_nil, hp_set_cons, List.map_toArray, Array.toList_map, reduceCtorEq, false_and, and_false, if_true, if_false, Bool.false_eq_true, Bool.not_true, Bool.not_false, decide_true, decide_false, implies_true, forall_const, List.length_map, qops, qop, exists_eq_left', exists_eq_left, and_assoc, exists_and_left, Int.toNat_natCast, Int.natCast_nonneg, Nat.mul_one, agg_75, elem_75, arr_75, str_75, ismap_75, agg_88, Try.results62, f0,f1,f3]
      repeat' (first | refine AW.seq ?_ | ((first | refine AW.reg (by rfl) ?_ | refine AW.skip ?_ | refine AW.ret ?_ | refine AW.exit ?_); simp only [undef, aops, aop, acall, ev, ofValue, put_some, put_none, AThen, ABlock, APost, ares, oneOrTup, upd_get, entry_get, guardOf, Nat.reduceEqDiff, ↓reduceIte, List.getD_cons_zero, List.getD_cons_succ, List.getD_nil, abuild, abuildSlice, parts, zcells, Value.cells, afill, cells_agg, cells_v, cells_sl, cells_rp, cells_ifc, cells_mp, mkIfc, splice, List.map_cons, List.map_nil, List.length_cons, List.length_nil, List.take_succ_cons, List.take_zero, List.drop_succ_cons, List.drop_zero, List.take_nil, List.drop_nil, List.nil_append, List.cons_append, List.append_nil, List.getElem?_cons_zero, List.getElem?_cons_succ, List.all_cons, List.all_nil, one_v, one_sl, one_rp, one_ifc, one_mp, one_agg, Value.oneCell', Bool.and_self, Bool.and_true, Bool.true_and, true_and, and_true, Nat.reduceAdd, Nat.reduceLeDiff, Nat.reduceMul, Nat.zero_add, Nat.add_zero, Nat.le_refl, Nat.zero_le, aload, astore, abox, aalloc, abin, aint, ashift, apick, anil, anils, isNilC, aun, aconvInt, arange, anext, aentry, aassertAny, aassert2, anilm, aifeq, ainvoke, ne_eq, not_true_eq_false, not_false_eq_true, afieldAddr, afield, apart, rpart, aindexAddr, aindex, alen, aextract, aassert, amakeFunc, amakeSlice, amakeMap, alookup, amapUpdate, adelete, acopy, acopySrc, srcOf, aappend, bcells_eq, bcellsR, mcells_one, mcells_zero, List.length_replicate, List.size_toArray, Int.cast_ofNat_Int, Int.one_mul, Int.reduceToNat, Int.reduceLT, Int.reduceLE, Int.reduceMul, Int.reduceAdd, Int.reduceSub, Int.reduceNeg, Int.reduceEq, Nat.reduceLT, Nat.reduceSub, flats, amax, amin, aslice, abounds, optInt, Option.map_some, Option.map_none, Option.getD_some, Option.getD_none, Option.bind_some, Option.bind_none, Option.isSome_some, Option.isSome_none, false_imp_iff, hp_get_nil, hp_get_cons, hp_del_nil, hp_del_cons, hp_notin_nil, hp_notin_cons, hp_set_out, hp_get_out, hp_del_out, and_imp, hp_set_nil, hp_set_cons, List.map_toArray, Array.toList_map, reduceCtorEq, false_and, and_false, if_true, if_false, Bool.false_eq_true, Bool.not_true, Bool.not_false, decide_true, decide_false, implies_true, forall_const, List.length_map, qops, qop, exists_eq_left', exists_eq_left, and_assoc, exists_and_left, Int.toNat_natCast, Int.natCast_nonneg, Nat.mul_one, agg_75, elem_75, arr_75, str_75, ismap_75, agg_88, Try.results62, f0,f1,f3]) | refine AW.block ?_ | with_reducible refine AW.condT rfl ?_ | with_reducible refine AW.condF rfl ?_)
      rw [← hQ]
      refine ⟨_, _, rfl, by simp, ?_⟩
      simp only
      repeat' (first | refine AW.seq ?_ | ((first | refine AW.reg (by rfl) ?_ | refine AW.skip ?_ | refine AW.ret ?_ | refine AW.exit ?_); simp only [undef, aops, aop, acall, ev, ofValue, put_some, put_none, AThen, ABlock, APost, ares, oneOrTup, upd_get, entry_get, guardOf, Nat.reduceEqDiff, ↓reduceIte, List.getD_cons_zero, List.getD_cons_succ, List.getD_nil, abuild, abuildSlice, parts, zcells, Value.cells, afill, cells_agg, cells_v, cells_sl, cells_rp, cells_ifc, cells_mp, mkIfc, splice, List.map_cons, List.map_nil, List.length_cons, List.length_nil, List.take_succ_cons, List.take_zero, List.drop_succ_cons, List.drop_zero, List.take_nil, List.drop_nil, List.nil_append, List.cons_append, List.append_nil, List.getElem?_cons_zero, List.getElem?_cons_succ, List.all_cons, List.all_nil, one_v, one_sl, one_rp, one_ifc, one_mp, one_agg, Value.oneCell', Bool.and_self, Bool.and_true, Bool.true_and, true_and, and_true, Nat.reduceAdd, Nat.reduceLeDiff, Nat.reduceMul, Nat.zero_add, Nat.add_zero, Nat.le_refl, Nat.zero_le, aload, astore, abox, aalloc, abin, aint, ashift, apick, anil, anils, isNilC, aun, aconvInt, arange, anext, aentry, aassertAny, aassert2, anilm, aifeq, ainvoke, ne_eq, not_true_eq_false, not_false_eq_true, afieldAddr, afield, apart, rpart, aindexAddr, aindex, alen, aextract, aassert, amakeFunc, amakeSlice, amakeMap, alookup, amapUpdate, adelete, acopy, acopySrc, srcOf, aappend, bcells_eq, bcellsR, mcells_one, mcells_zero, List.length_replicate, List.size_toArray, Int.cast_ofNat_Int, Int.one_mul, Int.reduceToNat, Int.reduceLT, Int.reduceLE, Int.reduceMul, Int.reduceAdd, Int.reduceSub, Int.reduceNeg, Int.reduceEq, Nat.reduceLT, Nat.reduceSub, flats, amax, amin, aslice, abounds, optInt, Option.map_some, Option.map_none, Option.getD_some, Option.getD_none, Option.bind_some, Option.bind_none, Option.isSome_some, Option.isSome_none, false_imp_iff, hp_get_nil, hp_get_cons, hp_del_nil, hp_del_cons, hp_notin_nil, hp_notin_cons, hp_set_out, hp_get_out, hp_del_out, and_imp, hp_set_nil, hp_set_cons, List.map_toArray, Array.toList_map, reduceCtorEq, false_and, and_false, if_true, if_false, Bool.false_eq_true, Bool.not_true, Bool.not_false, decide_true, decide_false, implies_true, forall_const, List.length_map, qops, qop, exists_eq_left', exists_eq_left, and_assoc, exists_and_left, Int.toNat_natCast, Int.natCast_nonneg, Nat.mul_one, agg_3, zero_23, zero_29, iface_29, issl_29, isptr_29, cmp_71, agg_23, agg_29, field_77_2, agg_75, zero_88, agg_88, field_88_0, iface_3, issl_3, isptr_3, field_88_1, field_77_1, agg_74, map_74, Try.results21, e0,e3,e4,e5,optC_one,h43,h54,h53,Ne.symm h43,Ne.symm h54,Ne.symm h53,hp5,hp4,hp3,Ne.symm hp5,Ne.symm hp4,Ne.symm hp3,h8p,h85,h84,h83,Ne.symm h8p,Ne.symm h85,Ne.symm h84,Ne.symm h83,hq8,hqp,hq5,hq4,hq3,Ne.symm hq8,Ne.symm hqp,Ne.symm hq5,Ne.symm hq4,Ne.symm hq3]) | refine AW.block ?_ | with_reducible refine AW.condT rfl ?_ | with_reducible refine AW.condF rfl ?_)
      rw [hK']
      refine ⟨q, cap, _, h64, hmx, rfl, rfl, ?_⟩
      have : readC at_ es ps = Mac.blk (ps[i].2.getD []) := by
        unfold readC
        rw [lastC_take (fun j hj hij => hno j hj (by omega)) hlt he]
      rw [this, Nat.mul_one]
      exact .cons_cons _ (List.nil_sublist _)
    · have hd : (ps[i].1 == at_) = false := by simpa using he
      have hd2 : decide (ps[i].1 = at_) = false := by simpa using he
      repeat' (first | refine AW.seq ?_ | ((first | refine AW.reg (by rfl) ?_ | refine AW.skip ?_ | refine AW.ret ?_ | refine AW.exit ?_); simp only [undef, aops, aop, acall, ev, ofValue, put_some, put_none, AThen, ABlock, APost, ares, oneOrTup, upd_get, entry_get, guardOf, Nat.reduceEqDiff, ↓reduceIte, List.getD_cons_zero, List.getD_cons_succ, List.getD_nil, abuild, abuildSlice, parts, zcells, Value.cells, afill, cells_agg, cells_v, cells_sl, cells_rp, cells_ifc, cells_mp, mkIfc, splice, List.map_cons, List.map_nil, List.length_cons, List.length_nil, List.take_succ_cons, List.take_zero, List.drop_succ_cons, List.drop_zero, List.take_nil, List.drop_nil, List.nil_append, List.cons_append, List.append_nil, List.getElem?_cons_zero, List.getElem?_cons_succ, List.all_cons, List.all_nil, one_v, one_sl, one_rp, one_ifc, one_mp, one_agg, Value.oneCell', Bool.and_self, Bool.and_true, Bool.true_and, true_and, and_true, Nat.reduceAdd, Nat.reduceLeDiff, Nat.reduceMul, Nat.zero_add, Nat.add_zero, Nat.le_refl, Nat.zero_le, aload, astore, abox, aalloc, abin, aint, ashift, apick, anil, anils, isNilC, aun, aconvInt, arange, anext, aentry, aassertAny, aassert2, anilm, aifeq, ainvoke, ne_eq, not_true_eq_false, not_false_eq_true, afieldAddr, afield, apart, rpart, aindexAddr, aindex, alen, aextract, aassert, amakeFunc, amakeSlice, amakeMap, alookup, amapUpdate, adelete, acopy, acopySrc, srcOf, aappend, bcells_eq, bcellsR, mcells_one, mcells_zero, List.length_replicate, List.size_toArray, Int.cast_ofNat_Int, Int.one_mul, Int.reduceToNat, Int.reduceLT, Int.reduceLE, Int.reduceMul, Int.reduceAdd, Int.reduceSub, Int.reduceNeg, Int.reduceEq, Nat.reduceLT, Nat.reduceSub, flats, amax, amin, aslice, abounds, optInt, Option.map_some, Option.map_none, Option.getD_some, Option.getD_none, Option.bind_some, Option.bind_none, Option.isSome_some, Option.isSome_none, false_imp_iff, hp_get_nil, hp_get_cons, hp_del_nil, hp_del_cons, hp_notin_nil, hp_notin_cons, hp_set_out, hp_get_out, hp_del_out, and_imp, hp_set_nil, hp_set_cons, List.map_toArray, Array.toList_map, reduceCtorEq, false_and, and_false, if_true, if_false, Bool.false_eq_true, Bool.not_true, Bool.not_false, decide_true, decide_false, implies_true, forall_const, List.length_map, qops, qop, exists_eq_left', exists_eq_left, and_assoc, exists_and_left, Int.toNat_natCast, Int.natCast_nonneg, Nat.mul_one, agg_3, zero_23, zero_29, iface_29, issl_29, isptr_29, cmp_71, agg_23, agg_29, field_77_2, agg_75, zero_88, agg_88, field_88_0, iface_3, issl_3, isptr_3, field_88_1, field_77_1, agg_74, map_74, Try.results21, e0,e3,e4,e5,optC_one,h43,h54,h53,Ne.symm h43,Ne.symm h54,Ne.symm h53,hp5,hp4,hp3,Ne.symm hp5,Ne.symm hp4,Ne.symm hp3,h8p,h85,h84,h83,Ne.symm h8p,Ne.symm h85,Ne.symm h84,Ne.symm h83,hd,hd2]) | refine AW.block ?_ | with_reducible refine AW.condT rfl ?_ | with_reducible refine AW.condF rfl ?_)
      simp only [YEnd]
      try simp only [undef, aops, aop, acall, ev, ofValue, put_some, put_none, AThen, ABlock, APost, ares, oneOrTup, upd_get, entry_get, guardOf, Nat.reduceEqDiff, ↓reduceIte, List.getD_cons_zero, List.getD_cons_succ, List.getD_nil, abuild, abuildSlice, parts, zcells, Value.cells, afill, cells_agg, cells_v, cells_sl, cells_rp, cells_ifc, cells_mp, mkIfc, splice, List.map_cons, List.map_nil, List.length_cons, List.length_nil, List.take_succ_cons, List.take_zero, List.drop_succ_cons, List.drop_zero, List.take_nil, List.drop_nil, List.nil_append, List.cons_append, List.append_nil, List.getElem?_cons_zero, List.getElem?_cons_succ, List.all_cons, List.all_nil, one_v, one_sl, one_rp, one_ifc, one_mp, one_agg, Value.oneCell', Bool.and_self, Bool.and_true, Bool.true_and, true_and, and_true, Nat.reduceAdd, Nat.reduceLeDiff, Nat.reduceMul, Nat.zero_add, Nat.add_zero, Nat.le_refl, Nat.zero_le, aload, astore, abox, aalloc, abin, aint, ashift, apick, anil, anils, isNilC, aun, aconvInt, arange, anext, aentry, aassertAny, aassert2, anilm, aifeq, ainvoke, ne_eq, not_true_eq_false, not_false_eq_true, afieldAddr, afield, apart, rpart, aindexAddr, aindex, alen, aextract, aassert, amakeFunc, amakeSlice, amakeMap, alookup, amapUpdate, adelete, acopy, acopySrc, srcOf, aappend, bcells_eq, bcellsR, mcells_one, mcells_zero, List.length_replicate, List.size_toArray, Int.cast_ofNat_Int, Int.one_mul, Int.reduceToNat, Int.reduceLT, Int.reduceLE, Int.reduceMul, Int.reduceAdd, Int.reduceSub, Int.reduceNeg, Int.reduceEq, Nat.reduceLT, Nat.reduceSub, flats, amax, amin, aslice, abounds, optInt, Option.map_some, Option.map_none, Option.getD_some, Option.getD_none, Option.bind_some, Option.bind_none, Option.isSome_some, Option.isSome_none, false_imp_iff, hp_get_nil, hp_get_cons, hp_del_nil, hp_del_cons, hp_notin_nil, hp_notin_cons, hp_set_out, hp_get_out, hp_del_out, and_imp, hp_set_nil, hp_set_cons, List.map_toArray, Array.toList_map, reduceCtorEq, false_and, and_false, if_true, if_false, Bool.false_eq_true, Bool.not_true, Bool.not_false, decide_true, decide_false, implies_true, forall_const, List.length_map, qops, qop, exists_eq_left', exists_eq_left, and_assoc, exists_and_left, Int.toNat_natCast, Int.natCast_nonneg, Nat.mul_one, agg_75, elem_75, arr_75, str_75, ismap_75, agg_88, Try.results62, f0,f1,f3]
      repeat' (first | refine AW.seq ?_ | ((first | refine AW.reg (by rfl) ?_ | refine AW.skip ?_ | refine AW.ret ?_ | refine AW.exit ?_); simp only [undef, aops, aop, acall, ev, ofValue, put_some, put_none, AThen, ABlock, APost, ares, oneOrTup, upd_get, entry_get, guardOf, Nat.reduceEqDiff, ↓reduceIte, List.getD_cons_zero, List.getD_cons_succ, List.getD_nil, abuild, abuildSlice, parts, zcells, Value.cells, afill, cells_agg, cells_v, cells_sl, cells_rp, cells_ifc, cells_mp, mkIfc, splice, List.map_cons, List.map_nil, List.length_cons, List.length_nil, List.take_succ_cons, List.take_zero, List.drop_succ_cons, List.drop_zero, List.take_nil, List.drop_nil, List.nil_append, List.cons_append, List.append_nil, List.getElem?_cons_zero, List.getElem?_cons_succ, List.all_cons, List.all_nil, one_v, one_sl, one_rp, one_ifc, one_mp, one_agg, Value.oneCell', Bool.and_self, Bool.and_true, Bool.true_and, true_and, and_true, Nat.reduceAdd, Nat.reduceLeDiff, Nat.reduceMul, Nat.zero_add, Nat.add_zero, Nat.le_refl, Nat.zero_le, aload, astore, abox, aalloc, abin, aint, ashift, apick, anil, anils, isNilC, aun, aconvInt, arange, anext, aentry, aassertAny, aassert2, anilm, aifeq, ainvoke, ne_eq, not_true_eq_false, not_false_eq_true, afieldAddr, afield, apart, rpart, aindexAddr, aindex, alen, aextract, aassert, amakeFunc, amakeSlice, amakeMap, alookup, amapUpdate, adelete, acopy, acopySrc, srcOf, aappend, bcells_eq, bcellsR, mcells_one, mcells_zero, List.length_replicate, List.size_toArray, Int.cast_ofNat_Int, Int.one_mul, Int.reduceToNat, Int.reduceLT, Int.reduceLE, Int.reduceMul, Int.reduceAdd, Int.reduceSub, Int.reduceNeg, Int.reduceEq, Nat.reduceLT, Nat.reduceSub, flats, amax, amin, aslice, abounds, optInt, Option.map_some, Option.map_none, Option.getD_some, Option.getD_none, Option.bind_some, Option.bind_none, Option.isSome_some, Option.isSome_none, false_imp_iff, hp_get_nil, hp_get_cons, hp_del_nil, hp_del_cons, hp_notin_nil, hp_notin_cons, hp_set_out, hp_get_out, hp_del_out, and_imp, hp_set_nil, hp_set_cons, List.map_toArray, Array.toList_map, reduceCtorEq, false_and, and_false, if_true, if_false, Bool.false_eq_true, Bool.not_true, Bool.not_false, decide_true, decide_false, implies_true, forall_const, List.length_map, qops, qop, exists_eq_left', exists_eq_left, and_assoc, exists_and_left, Int.toNat_natCast, Int.natCast_nonneg, Nat.mul_one, agg_75, elem_75, arr_75, str_75, ismap_75, agg_88, Try.results62, f0,f1,f3]) | refine AW.block ?_ | with_reducible refine AW.condT rfl ?_ | with_reducible refine AW.condF rfl ?_)
      rw [hH]
      refine ⟨i, _, by omega, ?_, ?_, i, by omega, by rw [hS0], rfl, ?_, ?_, ?_, fun j hj hij => ?_⟩
      · intro x hx
        simp only [List.mem_cons, List.not_mem_nil, or_false] at hx ⊢
        rcases hx with rfl | rfl | rfl | rfl | rfl <;> simp
      · exact hnd
      · simp [upd_get, f0]
      · simp [upd_get, f1]
      · simp only [upd_get, if_true]
        have : IntKind.i64.wrap (((i + 1 : Nat) : Int) - 1 - 1) = (i : Int) - 1 := by rw [wrap_i64 (by omega) (by omega)]; omega
        rw [this]
      · rcases Nat.lt_or_ge i j with h1 | h1
        · exact hno j hj (by omega)
        · have : j = i := by omega
          subst this; exact he
theorem read_err (rm at_ : Int) (h : at_ < 0 ∨ 1073741824 < at_) (x y : AV) (hy : y.isAgg = false) :
    Meets Try.prog 21 [.rp (.agg [.v (.int .i64 rm), x, y]), .v (.int .i64 at_)] [] (fun r t => r = .tup [.v (.slice none 0 0), .ifc 115 (.agg [.v (.string ⟨#[98,108,111,99,107]⟩), .v (.int .i64 at_), .v (.iface 71 (.int .i64 2))])]) := by
  obtain ⟨K', hK'⟩ : ∃ K' : AV → Hp → Prop, K' = (fun r t => r = .tup [.v (.slice none 0 0), .ifc 115 (.agg [.v (.string ⟨#[98,108,111,99,107]⟩), .v (.int .i64 at_), .v (.iface 71 (.int .i64 2))])]) := ⟨_, rfl⟩
  rw [← hK']
  refine Meets.body Try.func21 rfl rfl (by simp [Try.ntmps21]) ?_
  repeat' (first | refine AW.seq ?_ | ((first | refine AW.reg (by rfl) ?_ | refine AW.skip ?_ | refine AW.ret ?_ | refine AW.exit ?_); simp only [undef, aops, aop, acall, ev, ofValue, put_some, put_none, AThen, ABlock, APost, ares, oneOrTup, upd_get, entry_get, guardOf, Nat.reduceEqDiff, ↓reduceIte, List.getD_cons_zero, List.getD_cons_succ, List.getD_nil, abuild, abuildSlice, parts, zcells, Value.cells, afill, cells_agg, cells_v, cells_sl, cells_rp, cells_ifc, cells_mp, mkIfc, splice, List.map_cons, List.map_nil, List.length_cons, List.length_nil, List.take_succ_cons, List.take_zero, List.drop_succ_cons, List.drop_zero, List.take_nil, List.drop_nil, List.nil_append, List.cons_append, List.append_nil, List.getElem?_cons_zero, List.getElem?_cons_succ, List.all_cons, List.all_nil, one_v, one_sl, one_rp, one_ifc, one_mp, one_agg, Value.oneCell', Bool.and_self, Bool.and_true, Bool.true_and, true_and, and_true, Nat.reduceAdd, Nat.reduceLeDiff, Nat.reduceMul, Nat.zero_add, Nat.add_zero, Nat.le_refl, Nat.zero_le, aload, astore, abox, aalloc, abin, aint, ashift, apick, anil, anils, isNilC, aun, aconvInt, arange, anext, aentry, aassertAny, aassert2, anilm, aifeq, ainvoke, ne_eq, not_true_eq_false, not_false_eq_true, afieldAddr, afield, apart, rpart, aindexAddr, aindex, alen, aextract, aassert, amakeFunc, amakeSlice, amakeMap, alookup, amapUpdate, adelete, acopy, acopySrc, srcOf, aappend, bcells_eq, bcellsR, mcells_one, mcells_zero, List.length_replicate, List.size_toArray, Int.cast_ofNat_Int, Int.one_mul, Int.reduceToNat, Int.reduceLT, Int.reduceLE, Int.reduceMul, Int.reduceAdd, Int.reduceSub, Int.reduceNeg, Int.reduceEq, Nat.reduceLT, Nat.reduceSub, flats, amax, amin, aslice, abounds, optInt, Option.map_some, Option.map_none, Option.getD_some, Option.getD_none, Option.bind_some, Option.bind_none, Option.isSome_some, Option.isSome_none, false_imp_iff, hp_get_nil, hp_get_cons, hp_del_nil, hp_del_cons, hp_notin_nil, hp_notin_cons, hp_set_out, hp_get_out, hp_del_out, and_imp, hp_set_nil, hp_set_cons, List.map_toArray, Array.toList_map, reduceCtorEq, false_and, and_false, if_true, if_false, Bool.false_eq_true, Bool.not_true, Bool.not_false, decide_true, decide_false, implies_true, forall_const, List.length_map, qops, qop, exists_eq_left', exists_eq_left, and_assoc, exists_and_left, Int.toNat_natCast, Int.natCast_nonneg, Nat.mul_one, agg_3, zero_23, zero_29, iface_29, issl_29, isptr_29, cmp_71, agg_23, agg_29, field_77_2, agg_75, zero_88, agg_88, field_88_0, iface_3, issl_3, isptr_3, field_88_1, field_77_1, agg_74, map_74, Try.results21, rpart]) | refine AW.block ?_ | with_reducible refine AW.condT rfl ?_ | with_reducible refine AW.condF rfl ?_)
  intro b3 b4 h43 b5 h54 h53
  repeat' (first | refine AW.seq ?_ | ((first | refine AW.reg (by rfl) ?_ | refine AW.skip ?_ | refine AW.ret ?_ | refine AW.exit ?_); simp only [undef, aops, aop, acall, ev, ofValue, put_some, put_none, AThen, ABlock, APost, ares, oneOrTup, upd_get, entry_get, guardOf, Nat.reduceEqDiff, ↓reduceIte, List.getD_cons_zero, List.getD_cons_succ, List.getD_nil, abuild, abuildSlice, parts, zcells, Value.cells, afill, cells_agg, cells_v, cells_sl, cells_rp, cells_ifc, cells_mp, mkIfc, splice, List.map_cons, List.map_nil, List.length_cons, List.length_nil, List.take_succ_cons, List.take_zero, List.drop_succ_cons, List.drop_zero, List.take_nil, List.drop_nil, List.nil_append, List.cons_append, List.append_nil, List.getElem?_cons_zero, List.getElem?_cons_succ, List.all_cons, List.all_nil, one_v, one_sl, one_rp, one_ifc, one_mp, one_agg, Value.oneCell', Bool.and_self, Bool.and_true, Bool.true_and, true_and, and_true, Nat.reduceAdd, Nat.reduceLeDiff, Nat.reduceMul, Nat.zero_add, Nat.add_zero, Nat.le_refl, Nat.zero_le, aload, astore, abox, aalloc, abin, aint, ashift, apick, anil, anils, isNilC, aun, aconvInt, arange, anext, aentry, aassertAny, aassert2, anilm, aifeq, ainvoke, ne_eq, not_true_eq_false, not_false_eq_true, afieldAddr, afield, apart, rpart, aindexAddr, aindex, alen, aextract, aassert, amakeFunc, amakeSlice, amakeMap, alookup, amapUpdate, adelete, acopy, acopySrc, srcOf, aappend, bcells_eq, bcellsR, mcells_one, mcells_zero, List.length_replicate, List.size_toArray, Int.cast_ofNat_Int, Int.one_mul, Int.reduceToNat, Int.reduceLT, Int.reduceLE, Int.reduceMul, Int.reduceAdd, Int.reduceSub, Int.reduceNeg, Int.reduceEq, Nat.reduceLT, Nat.reduceSub, flats, amax, amin, aslice, abounds, optInt, Option.map_some, Option.map_none, Option.getD_some, Option.getD_none, Option.bind_some, Option.bind_none, Option.isSome_some, Option.isSome_none, false_imp_iff, hp_get_nil, hp_get_cons, hp_del_nil, hp_del_cons, hp_notin_nil, hp_notin_cons, hp_set_out, hp_get_out, hp_del_out, and_imp, hp_set_nil, hp_set_cons, List.map_toArray, Array.toList_map, reduceCtorEq, false_and, and_false, if_true, if_false, Bool.false_eq_true, Bool.not_true, Bool.not_false, decide_true, decide_false, implies_true, forall_const, List.length_map, qops, qop, exists_eq_left', exists_eq_left, and_assoc, exists_and_left, Int.toNat_natCast, Int.natCast_nonneg, Nat.mul_one, agg_3, zero_23, zero_29, iface_29, issl_29, isptr_29, cmp_71, agg_23, agg_29, field_77_2, agg_75, zero_88, agg_88, field_88_0, iface_3, issl_3, isptr_3, field_88_1, field_77_1, agg_74, map_74, Try.results21, rpart,h43,h54,h53,Ne.symm h43,Ne.symm h54,Ne.symm h53]) | refine AW.block ?_ | with_reducible refine AW.condT rfl ?_ | with_reducible refine AW.condF rfl ?_)
  refine right_av_no at_ h _ _ ?_
  try simp only [undef, aops, aop, acall, ev, ofValue, put_some, put_none, AThen, ABlock, APost, ares, oneOrTup, upd_get, entry_get, guardOf, Nat.reduceEqDiff, ↓reduceIte, List.getD_cons_zero, List.getD_cons_succ, List.getD_nil, abuild, abuildSlice, parts, zcells, Value.cells, afill, cells_agg, cells_v, cells_sl, cells_rp, cells_ifc, cells_mp, mkIfc, splice, List.map_cons, List.map_nil, List.length_cons, List.length_nil, List.take_succ_cons, List.take_zero, List.drop_succ_cons, List.drop_zero, List.take_nil, List.drop_nil, List.nil_append, List.cons_append, List.append_nil, List.getElem?_cons_zero, List.getElem?_cons_succ, List.all_cons, List.all_nil, one_v, one_sl, one_rp, one_ifc, one_mp, one_agg, Value.oneCell', Bool.and_self, Bool.and_true, Bool.true_and, true_and, and_true, Nat.reduceAdd, Nat.reduceLeDiff, Nat.reduceMul, Nat.zero_add, Nat.add_zero, Nat.le_refl, Nat.zero_le, aload, astore, abox, aalloc, abin, aint, ashift, apick, anil, anils, isNilC, aun, aconvInt, arange, anext, aentry, aassertAny, aassert2, anilm, aifeq, ainvoke, ne_eq, not_true_eq_false, not_false_eq_true, afieldAddr, afield, apart, rpart, aindexAddr, aindex, alen, aextract, aassert, amakeFunc, amakeSlice, amakeMap, alookup, amapUpdate, adelete, acopy, acopySrc, srcOf, aappend, bcells_eq, bcellsR, mcells_one, mcells_zero, List.length_replicate, List.size_toArray, Int.cast_ofNat_Int, Int.one_mul, Int.reduceToNat, Int.reduceLT, Int.reduceLE, Int.reduceMul, Int.reduceAdd, Int.reduceSub, Int.reduceNeg, Int.reduceEq, Nat.reduceLT, Nat.reduceSub, flats, amax, amin, aslice, abounds, optInt, Option.map_some, Option.map_none, Option.getD_some, Option.getD_none, Option.bind_some, Option.bind_none, Option.isSome_some, Option.isSome_none, false_imp_iff, hp_get_nil, hp_get_cons, hp_del_nil, hp_del_cons, hp_notin_nil, hp_notin_cons, hp_set_out, hp_get_out, hp_del_out, and_imp, hp_set_nil, hp_set_cons, List.map_toArray, Array.toList_map, reduceCtorEq, false_and, and_false, if_true, if_false, Bool.false_eq_true, Bool.not_true, Bool.not_false, decide_true, decide_false, implies_true, forall_const, List.length_map, qops, qop, exists_eq_left', exists_eq_left, and_assoc, exists_and_left, Int.toNat_natCast, Int.natCast_nonneg, Nat.mul_one, agg_3, zero_23, zero_29, iface_29, issl_29, isptr_29, cmp_71, agg_23, agg_29, field_77_2, agg_75, zero_88, agg_88, field_88_0, iface_3, issl_3, isptr_3, field_88_1, field_77_1, agg_74, map_74, Try.results21, rpart,h43,h54,h53,Ne.symm h43,Ne.symm h54,Ne.symm h53]
  repeat' (first | refine AW.seq ?_ | ((first | refine AW.reg (by rfl) ?_ | refine AW.skip ?_ | refine AW.ret ?_ | refine AW.exit ?_); simp only [undef, aops, aop, acall, ev, ofValue, put_some, put_none, AThen, ABlock, APost, ares, oneOrTup, upd_get, entry_get, guardOf, Nat.reduceEqDiff, ↓reduceIte, List.getD_cons_zero, List.getD_cons_succ, List.getD_nil, abuild, abuildSlice, parts, zcells, Value.cells, afill, cells_agg, cells_v, cells_sl, cells_rp, cells_ifc, cells_mp, mkIfc, splice, List.map_cons, List.map_nil, List.length_cons, List.length_nil, List.take_succ_cons, List.take_zero, List.drop_succ_cons, List.drop_zero, List.take_nil, List.drop_nil, List.nil_append, List.cons_append, List.append_nil, List.getElem?_cons_zero, List.getElem?_cons_succ, List.all_cons, List.all_nil, one_v, one_sl, one_rp, one_ifc, one_mp, one_agg, Value.oneCell', Bool.and_self, Bool.and_true, Bool.true_and, true_and, and_true, Nat.reduceAdd, Nat.reduceLeDiff, Nat.reduceMul, Nat.zero_add, Nat.add_zero, Nat.le_refl, Nat.zero_le, aload, astore, abox, aalloc, abin, aint, ashift, apick, anil, anils, isNilC, aun, aconvInt, arange, anext, aentry, aassertAny, aassert2, anilm, aifeq, ainvoke, ne_eq, not_true_eq_false, not_false_eq_true, afieldAddr, afield, apart, rpart, aindexAddr, aindex, alen, aextract, aassert, amakeFunc, amakeSlice, amakeMap, alookup, amapUpdate, adelete, acopy, acopySrc, srcOf, aappend, bcells_eq, bcellsR, mcells_one, mcells_zero, List.length_replicate, List.size_toArray, Int.cast_ofNat_Int, Int.one_mul, Int.reduceToNat, Int.reduceLT, Int.reduceLE, Int.reduceMul, Int.reduceAdd, Int.reduceSub, Int.reduceNeg, Int.reduceEq, Nat.reduceLT, Nat.reduceSub, flats, amax, amin, aslice, abounds, optInt, Option.map_some, Option.map_none, Option.getD_some, Option.getD_none, Option.bind_some, Option.bind_none, Option.isSome_some, Option.isSome_none, false_imp_iff, hp_get_nil, hp_get_cons, hp_del_nil, hp_del_cons, hp_notin_nil, hp_notin_cons, hp_set_out, hp_get_out, hp_del_out, and_imp, hp_set_nil, hp_set_cons, List.map_toArray, Array.toList_map, reduceCtorEq, false_and, and_false, if_true, if_false, Bool.false_eq_true, Bool.not_true, Bool.not_false, decide_true, decide_false, implies_true, forall_const, List.length_map, qops, qop, exists_eq_left', exists_eq_left, and_assoc, exists_and_left, Int.toNat_natCast, Int.natCast_nonneg, Nat.mul_one, agg_3, zero_23, zero_29, iface_29, issl_29, isptr_29, cmp_71, agg_23, agg_29, field_77_2, agg_75, zero_88, agg_88, field_88_0, iface_3, issl_3, isptr_3, field_88_1, field_77_1, agg_74, map_74, Try.results21, rpart,h43,h54,h53,Ne.symm h43,Ne.symm h54,Ne.symm h53]) | refine AW.block ?_ | with_reducible refine AW.condT rfl ?_ | with_reducible refine AW.condF rfl ?_)
  rw [hK']
end Go.Proofs.Ytddbfjgodbfaoaa.T

namespace Go.Mac
open Go Go.Eng Go.Pl Go.Proofs Go.Proofs.Ytddbfjgodbfaoaa.T
set_option linter.unusedVariables false
set_option linter.unusedSimpArgs false
theorem u8s : ∀ {xs : List LV}, xs.all isU8 = true → ∃ b : List Int, xs = bys b
  | [], _ => ⟨[], rfl⟩
  | x :: xs, h => by
    simp only [List.all_cons, Bool.and_eq_true] at h
    obtain ⟨b, rfl⟩ := u8s h.2
    cases x with
    | int k n =>
      cases k <;> simp [isU8] at h
      exact ⟨n :: b, rfl⟩
    | _ => simp [isU8] at h
/-- The pending writes, as they are told. -/
theorem pend_told (R : Inst) (at_ : Int) : ∀ {ps : List LV}, ps.all okW = true → ∃ pc : List (Int × Option (List Int)), instL R false ps = pc.map pC ∧ ps.map (toP R) = pc.map (fun x => (x.1, x.2.map cel)) ∧
    lastOf at_ ps = (lastC at_ pc).map (fun o => match o with | some b => LV.isl 1 (bys b) | none => .nils)
  | [], _ => ⟨[], by simp [instL], rfl, rfl⟩
  | x :: ps, h => by
    simp only [List.all_cons, Bool.and_eq_true] at h
    obtain ⟨pc, h1, h2, h3⟩ := pend_told R at_ h.2
    have hx := h.1
    unfold okW at hx
    split at hx
    · rename_i a
      refine ⟨(a, none) :: pc, ?_, ?_, ?_⟩
      · simp only [instL, List.map_cons, h1]
        simp [pC, optC, inst, instL]
      · simp [h2, toP]
      · simp only [lastOf, lastC, h3]
        cases lastC at_ pc with
        | some o => simp
        | none =>
          simp only [Option.map_none]
          split <;> simp
    · rename_i a y ys
      obtain ⟨b, hb⟩ := u8s hx
      refine ⟨(a, some b) :: pc, ?_, ?_, ?_⟩
      · simp only [instL, List.map_cons, h1]
        simp only [pC, optC, inst, instL]
        have : inst R false y :: instL R false ys = cel b := by
          rw [← cel_bys R false b, ← hb]; simp only [instL]
        rw [this]
      · simp only [List.map_cons, h2]
        simp only [toP, Option.map_some]
        rw [hb, cel_bys]
      · simp only [lastOf, lastC, h3]
        cases lastC at_ pc with
        | some o => simp
        | none =>
          simp only [Option.map_none]
          split
          · simp [hb]
          · simp
    · simp at hx
theorem blk_pad (b : List Int) : (b ++ List.replicate 64 0).take 64 = blk b := by
  unfold blk spliceI
  rcases Nat.lt_or_ge b.length 64 with h | h
  · rw [Nat.min_eq_left (by omega), List.take_of_length_le (Nat.le_refl _), List.take_append, List.take_of_length_le (by omega), List.take_replicate, List.take_zero, List.nil_append, Nat.zero_add, List.drop_replicate, Nat.min_eq_left (by omega)]
  · rw [Nat.min_eq_right h, List.take_append_of_le_length h, List.take_zero, List.nil_append, Nat.zero_add, List.length_take, Nat.min_eq_left h, List.drop_replicate]
    simp
theorem pad_isl (b : List Int) : pad64 (.isl 1 (bys b)) = .isl 1 (bys (blk b)) := by
  rw [← blk_pad]
  simp [pad64, bys]
theorem pad_nils : pad64 .nils = .isl 1 (bys (blk [])) := by
  rw [← blk_pad]
  simp [pad64, bys]
theorem map_told (R : Inst) : ∀ (es : List (Int × AV)), (∀ p ∈ es, ∃ b, p.2 = .sl 1 (cel b)) → ∃ ec, es = mC ec
  | [], _ => ⟨[], rfl⟩
  | p :: es, h => by
    obtain ⟨ec, rfl⟩ := map_told R es (fun q hq => h q (List.mem_cons_of_mem _ hq))
    obtain ⟨b, hb⟩ := h p List.mem_cons_self
    refine ⟨(p.1, b) :: ec, ?_⟩
    obtain ⟨k, u⟩ := p
    simp only at hb
    subst hb
    rfl
theorem cel_inj : ∀ {a b : List Int}, cel a = cel b → a = b
  | [], [], _ => rfl
  | [], _ :: _, h => by simp [cel] at h
  | _ :: _, [], h => by simp [cel] at h
  | x :: a, y :: b, h => by
    simp only [cel, List.map_cons, List.cons.injEq] at h
    obtain ⟨h1, h2⟩ := h
    injection h1 with h1
    injection h1 with _ h1
    rw [h1, cel_inj (show cel a = cel b from h2)]
/-- What stands in a map whose values are bytes. -/
theorem kget_told {R : Inst} {ks : List Int} {vs : List LV} {ec : List (Int × List Int)} (hm : MapOk R (ks.zip vs) (mC ec)) (hv : vs.all okBs = true) (n : Int) : kget (ks.zip vs) n = (pget ec n).map fun b => LV.isl 1 (bys b) := by
  have h1 := hm.get n
  have h2 : Eng.mget (mC ec) n = (pget ec n).map (fun b => .sl 1 (cel b)) := mget_gmap _ _ _
  rw [h2] at h1
  cases hp : pget ec n with
  | none =>
    rw [hp] at h1
    cases hk : kget (ks.zip vs) n with
    | none => rfl
    | some x => rw [hk] at h1; simp at h1
  | some b =>
    rw [hp] at h1
    cases hk : kget (ks.zip vs) n with
    | none => rw [hk] at h1; simp at h1
    | some x =>
      rw [hk] at h1
      have hx : x ∈ vs := by
        have hmem : n ∈ (ks.zip vs).map (·.1) := by
          apply Classical.byContradiction
          intro hc
          rw [kget_none hc] at hk; simp at hk
        obtain ⟨y, hy1, hy2⟩ := kget_some hmem
        rw [hk] at hy1
        injection hy1 with hy1
        subst hy1
        exact (List.of_mem_zip hy2).2
      have ho := List.all_eq_true.1 hv x hx
      unfold okBs at ho
      split at ho
      · rename_i xs
        obtain ⟨b', rfl⟩ := u8s ho
        have : cel b = cel b' := by simpa [inst, cel_bys] using h1
        rw [cel_inj this]; rfl
      · simp at ho
theorem lm_read {as_ : List LV} {st st' : St} {v : LV} (h : xRead as_ st = some (v, st')) : LMeets Try.prog 21 as_ st v st' := by
  unfold xRead at h
  split at h
  case h_2 => simp at h
  rename_i b at_
  split at h
  case h_2 => simp at h
  rename_i e r ks vs el n ps hl
  split at h
  case isFalse => simp at h
  rename_i hc
  obtain ⟨he, hel, hn, hok, hlen, hvs⟩ := hc
  subst hel; subst hn
  intro R s hs hr
  obtain ⟨t1, t2, hob, _, hperm, _⟩ := hs.ents.focus hl
  obtain ⟨q, es, u3, s3, rfl, hm, h3⟩ := disk_lies hob
  have hb := disk_bor (b := b) (e := e) (r := r) (es := es) (q := q) hok h3
  have harg : ∀ I w xs, Rel I ((R.ρ b, .cells e [.v (.int .i64 r), .v (.map (some q)), u3] 3) :: (q, .imap .i64 es) :: s3) w → RVs I xs (instL R true [.ptr b 0, .int .i64 at_]) →
      RVs (I.with ((R.ρ b, .cells e [.v (.int .i64 r), .v (.map (some q)), u3] 3) :: (q, .imap .i64 es) :: s3) w) xs [.rp (.agg [.v (.int .i64 r), .mp .i64 es, .sl 2 ((ps.map (toP R)).map pAV)]), .v (.int .i64 at_)] := by
    intro I w xs hrel ha
    have ha' : RVs I xs (.v (.pointer (some ⟨R.ρ b, 0, none⟩)) :: [.v (.int .i64 at_)]) := by simpa [instL, inst] using ha
    exact rvs_box (vs := [.v (.int .i64 r), .mp .i64 es, .sl 2 ((ps.map (toP R)).map pAV)]) List.mem_cons_self (us := [.v (.int .i64 r), .v (.map (some q)), u3]) (by simp) hb hrel ha'
  split at h
  · -- out of range
    rename_i hat
    simp only [Option.some.injEq, Prod.mk.injEq] at h
    obtain ⟨rfl, rfl⟩ := h
    refine Meets.use _ t2 hperm.symm ?_
    refine Meets.borrow2 harg ((read_err r at_ hat _ _ rfl).mono ?_)
    rintro rr t rfl
    refine ⟨[], by simp, by simp [Hp.keys], rfl, by simp, ?_⟩
    refine ⟨R, s, Agree.refl _ _, Nat.le_refl _, ?_, ?_, HpWk.perm hperm.symm, hs⟩
    · simp only [inst, instL, mkIfc]
      exact Wk.refl _
    · simp [refs, refsL]
  · rename_i hat
    have hat2 : 0 ≤ at_ ∧ at_ ≤ 1073741824 := by omega
    obtain ⟨pc, hp1, hp2, hp3⟩ := pend_told R at_ hok
    obtain ⟨ec, rfl⟩ := map_told R es (fun p hp => by
      have := hm.perm.mem_iff.1 hp
      obtain ⟨y, hy, rfl⟩ := List.mem_map.1 this
      have hyv := (List.of_mem_zip (show (y.1, y.2) ∈ ks.zip vs from hy)).2
      have ho := List.all_eq_true.1 hvs _ hyv
      unfold okBs at ho
      split at ho
      · rename_i xs hxs
        obtain ⟨b', rfl⟩ := u8s ho
        refine ⟨b', ?_⟩
        simp only [hxs, inst, cel_bys]
      · simp at ho)
    have hpc : (ps.map (toP R)).map pAV = pc.map pC := by
      rw [hp2, List.map_map]
      apply List.map_congr_left
      rintro ⟨a, o⟩ _
      cases o <;> rfl
    have hkt := kget_told hm hvs at_
    -- what is read
    have hres : v = .tup [.isl 1 (bys (readC at_ ec pc)), .nili] ∧ st' = st := by
      rw [hp3, hkt] at h
      unfold readC
      cases hlc : lastC at_ pc with
      | some o =>
        rw [hlc] at h
        cases o with
        | some b' =>
          simp only [Option.map_some, pad_isl, Option.some.injEq, Prod.mk.injEq] at h
          exact ⟨h.1.symm, h.2.symm⟩
        | none =>
          simp only [Option.map_some, pad_nils, Option.some.injEq, Prod.mk.injEq] at h
          exact ⟨h.1.symm, h.2.symm⟩
      | none =>
        rw [hlc] at h
        simp only [Option.map_none] at h
        cases hpg : pget ec at_ with
        | some b' =>
          rw [hpg] at h
          simp only [Option.map_some, pad_isl, Option.some.injEq, Prod.mk.injEq] at h
          exact ⟨h.1.symm, h.2.symm⟩
        | none =>
          rw [hpg] at h
          simp only [Option.map_none, pad_nils, Option.some.injEq, Prod.mk.injEq] at h
          exact ⟨h.1.symm, h.2.symm⟩
    obtain ⟨rfl, rfl⟩ := hres
    refine Meets.froz ?_
    refine Meets.use _ t2 hperm.symm ?_
    rw [hpc] at harg
    have hpl : pc.length ≤ 1048576 := by
      have := congrArg List.length hp1
      rw [instL_eq, List.length_map, List.length_map] at this
      omega
    refine Meets.borrow2 harg ((read_av r at_ hat2 ec pc hpl).mono ?_)
    rintro rr t ⟨q', cap, t', h64, hmx, rfl, rfl, hsub⟩
    refine ⟨[(q', .cells 5 (cel (readC at_ ec pc)) (cap * 1))], fun p hp => hsub.subset hp, fun _ => by simp [Hp.keys], rfl, ?_, ?_⟩
    · intro p hp
      simp only [List.mem_singleton] at hp
      subst hp
      simp only [AObj.plain, List.all_eq_true]
      intro x hx
      unfold cel at hx
      obtain ⟨y, _, rfl⟩ := List.mem_map.1 hx
      rfl
    · intro hn
      have hlenr : (readC at_ ec pc).length = 64 := by
        unfold readC
        split <;> exact blk_length _
      have hkn : q' ∉ Hp.keys (((R.ρ b, AObj.cells e [.v (.int .i64 r), .v (.map (some q)), u3] 3) :: (q, .imap .i64 (mC ec)) :: s3) ++ t2) := (List.nodup_cons.1 hn).1
      refine ⟨[(q', .cells 5 (cel (readC at_ ec pc)) (cap * 1))], .tup [.sl 1 (cel (readC at_ ec pc)), .v .nilIface], _, fun p hp => by
        simp only [List.mem_singleton] at hp; subst hp; simp, ?_, .drop _ (.rest (fun k hk => by
          simp only [Hp.keys, List.map_cons, List.map_nil, List.mem_singleton]
          intro e; subst e; exact hkn hk)), ?_⟩
      · refine BorL.tup (.cons ?_ (.refl _ _))
        refine .row q' 0 64 cap 1 (cap * 1) 5 (cel (readC at_ ec pc)) (cel (readC at_ ec pc)) (by simp) ?_ h64 (by unfold big; omega) ?_ ?_
        · unfold cel; rw [List.length_map, hlenr]
        · intro i x hx
          unfold cel at hx
          rw [List.getElem?_map] at hx
          obtain ⟨y, _, rfl⟩ := Option.map_eq_some_iff.1 hx
          rfl
        · rw [cel_flat, List.drop_zero, List.take_of_length_le]
          unfold cel; rw [List.length_map, hlenr]; omega
      · refine ⟨R, s, Agree.refl _ _, Nat.le_refl _, ?_, by simp [refs, refsL], HpWk.perm hperm.symm, hs⟩
        simp only [inst, instL, cel_bys]
        exact Wk.refl _
end Go.Mac

namespace Go.Mac
open Go Go.Eng Go.Proofs
theorem extC0 : ExtSound Try.prog C0 := by
  intro f F h as_ st v st' hF
  simp only [C0] at h
  split at h
  · rename_i hf; subst hf; injection h with h; subst h; exact lm_mclone hF
  split at h
  · rename_i hf; subst hf; injection h with h; subst h; exact lm_needs hF
  split at h
  · rename_i hf; subst hf; injection h with h; subst h; exact lm_is hF
  split at h
  · rename_i hf; subst hf; injection h with h; subst h; exact lm_read hF
  split at h
  · rename_i hf; subst hf; injection h with h; subst h; exact lm_sorted hF
  · simp at h
end Go.Mac

namespace Go.Mac
open Go Go.Eng Go.Proofs Go.Proofs.Ytddbfjgodbfaoaa
set_option linter.unusedVariables false
theorem map_of {α : Type} {f : α → LV} {G : LV → Prop} (hG : ∀ x, G x → ∃ n, x = f n) : ∀ {xs : List LV}, (∀ x ∈ xs, G x) → ∃ l : List α, xs = l.map f
  | [], _ => ⟨[], rfl⟩
  | x :: xs, h => by
    obtain ⟨n, hn⟩ := hG x (h x (by simp))
    obtain ⟨l, hl⟩ := map_of hG (xs := xs) fun y hy => h y (by simp [hy])
    exact ⟨n :: l, by rw [hn, hl]; rfl⟩
def isBys (v : LV) : Prop := ∃ b : List Int, v = .isl 1 (bys b)
def isInts (v : LV) : Prop := ∃ b : List Int, v = .isl 1 (ints b)
theorem Rd.mono {H : Type} {enc : TypeId × Value → H} {P : Program} {R : Inst} {w : World} {t : TypeId} {G G' : LV → Prop} (h : Rd enc P R w t G) (hG : ∀ v, G v → G' v) : Rd enc P R w t G' := by
  intro base sp hd fuel cs x h1 h2
  obtain ⟨v, g, r⟩ := h base sp hd fuel cs x h1 h2
  exact ⟨v, hG v g, r⟩
section
variable {H : Type} {enc : TypeId × Value → H} {P : Program} {R : Inst} {w : World}
theorem Rd.bys {t e : TypeId} (ht : P.underlying t = some (.slice e)) (he : P.underlying e = some (.int .u8)) (hk : P.cellsOf e = 1) (hb : 0 < P.bytesOf e) : Rd enc P R w t isBys :=
  (Rd.slice ht hk (by omega) hb (Rd.int he) (by rintro v ⟨n, rfl, _⟩; rfl)).mono (by
    rintro v ⟨xs, rfl, h, _⟩
    obtain ⟨l, rfl⟩ := map_of (f := LV.int .u8) (by rintro x ⟨n, rfl, _⟩; exact ⟨n, rfl⟩) h
    exact ⟨l, rfl⟩)
theorem Rd.ints {t e : TypeId} (ht : P.underlying t = some (.slice e)) (he : P.underlying e = some (.int .i64)) (hk : P.cellsOf e = 1) (hb : 0 < P.bytesOf e) : Rd enc P R w t isInts :=
  (Rd.slice ht hk (by omega) hb (Rd.int he) (by rintro v ⟨n, rfl, _⟩; rfl)).mono (by
    rintro v ⟨xs, rfl, h, _⟩
    obtain ⟨l, rfl⟩ := map_of (f := LV.int .i64) (by rintro x ⟨n, rfl, _⟩; exact ⟨n, rfl⟩) h
    exact ⟨l, rfl⟩)
end
theorem own_seat : ownKnob Try.prog.godebug = none := by kernel_rfl
theorem laid_seat : laidOutB Try.prog = true := by kernel_rfl
theorem mixed_seat : Try.prog.follows .mixedOrders = true := by kernel_rfl
def isInt (k : IntKind) (v : LV) : Prop := ∃ n, v = .int k n
theorem Rd.i {H : Type} {enc : TypeId × Value → H} {P : Program} {R : Inst} {w : World} {t : TypeId} {k : IntKind} (ht : P.underlying t = some (.int k)) : Rd enc P R w t (isInt k) := (Rd.int ht).mono (by rintro v ⟨n, rfl, _⟩; exact ⟨n, rfl⟩)
end Go.Mac

namespace Go.Mac
open Go Go.Eng Go.Proofs Go.Proofs.Ytddbfjgodbfaoaa 
set_option linter.unusedVariables false
set_option maxRecDepth 100000
def isU8v (v : LV) : Prop := ∃ n, v = .int .u8 n ∧ (Lit.int .u8 n).wf = true
def isU16 (v : LV) : Prop := ∃ n, v = .int .u16 n ∧ (Lit.int .u16 n).wf = true
theorem full_params {H : Type} (enc : TypeId × Value → H) (W : World) : Params enc Try.prog R0 W Try.f8.params.toList [isU8v, isU16, isU16] := by
  rw [Try.params8]
  exact ⟨⟨ok1_int (k := .u8) (by kernel_rfl), Rd.int (by kernel_rfl), by rintro u ⟨l, rfl, _⟩; rfl⟩, ⟨ok1_int (k := .u16) (by kernel_rfl), Rd.int (by kernel_rfl), by rintro u ⟨l, rfl, _⟩; rfl⟩, ⟨ok1_int (k := .u16) (by kernel_rfl), Rd.int (by kernel_rfl), by rintro u ⟨l, rfl, _⟩; rfl⟩, trivial⟩
theorem enter8 (vs : Array Value) (W : World) : (callFunc 8 vs).run Try.prog W = .ok (.enter 8 vs) W := by kernel_rfl
theorem full_lifted (os : Os) (started : os.Started) (H : Type) (enc : TypeId × Value → H) :
    ReturnsInHanded {} Try.checked os 8 .any (Rows.chainFullSpec.pre6 enc Try.prog Try.f8 Rows.chainFullRow.domain false) (Rows.chainFullSpec.post enc Try.prog Try.f8 false true false false) :=
  lifted_of_lcall (K := Try.checked) (C := C0) (Gs := [isU8v, isU16, isU16]) (tb := 4) started own_seat laid_seat extC0 mixed_seat (by kernel_rfl) Try.func8 rfl
    (by rw [Try.params8]; exact of_decide_eq_true (by kernel_rfl)) (by kernel_rfl) (by kernel_rfl) (fun W => full_params enc W)
    (fun xs h => by
      match xs, h with
      | [a, b, c], h =>
        obtain ⟨⟨n, rfl, hw⟩, ⟨k, rfl, hw2⟩, ⟨l, rfl, hw3⟩, _⟩ := h
        have e1 : IntKind.u16.min = 0 := rfl
        have e2 : IntKind.u16.max = 65535 := rfl
        have e3 : IntKind.u8.min = 0 := rfl
        have e4 : IntKind.u8.max = 255 := rfl
        simp only [Lit.wf, Bool.and_eq_true, decide_eq_true_eq] at hw hw2 hw3
        exact ⟨201, full_lcall n k l (by omega) (by omega) (by omega) (by omega) (by omega) (by omega), rfl⟩)
    (fun ds h => by
      have h : ds.length = 3 := h
      match ds, h with
      | [d1, d2, d3], _ => exact ⟨rfl, rfl, rfl⟩)
    enter8
    (ChangeSpec.witness6 (enc := enc) (C := Try.checked) false ⟨#[], #[.int .u8 0, .int .u16 0, .int .u16 0], []⟩ 8 (by kernel_rfl) (by kernel_rfl) (by kernel_rfl) (by kernel_rfl))
theorem full_over : Rows.chainFullRow.holds Try.pinned (OpenSpec.ofChange Rows.chainFullSpec) :=
  OpenClaim.holds_of_wide 8 Try.f8 rfl rfl rfl rfl rfl rfl rfl ⟨rfl, rfl, rfl, rfl, rfl⟩ rfl rfl rfl rfl rfl (by kernel_rfl) Try.func8 (by kernel_rfl)
    (of_decide_eq_true (by kernel_rfl)) (by unfold Func.isWrapper; first | (rw [if_pos (by decide +kernel)]; kernel_rfl) | (rw [if_neg (by decide +kernel)]; exact ⟨rfl, rfl⟩))
    (fun os started H enc _ => full_lifted os started H enc)
end Go.Mac
namespace Go.Proofs.Ytddbfjgodbfaoaa
theorem chainFull_holds : Rows.ChainFullSaid := Go.Mac.full_over
end Go.Proofs.Ytddbfjgodbfaoaa
