/-
 SlotDoes holds for every input: each call is answered, and both blocks are, as the reference says; the condition is the card's own.
-/
import Derived.Test.YtddbfjgodbfaoaaGreatDoorSd9
import Derived.Test.YtddbfjgodbfaoaaGreatDoorTie
import Derived.Test.YtddbfjgodbfaoaaGreatDoorCards
import Derived.SevenTiedAt
set_option linter.unusedVariables false
set_option linter.unusedSimpArgs false
namespace Go.Mac
open Go Go.Eng Go.Proofs Go.Proofs.YtddbfjgodbfaoaaGreatDoor
open Go.IntKind (i64)
open Go.Proofs.Tryz (prog)
set_option maxRecDepth 100000
theorem map_ofW{α:Type}{f:α->LV}{G:LV->Prop}{Q:α->Prop}(hG:∀ x,G x->∃ n,x=f n/\Q n):∀ {xs:List LV},(∀ x∈xs,G x)->∃ l:List α,xs=l.map f/\∀ n∈l,Q n
 | [],_=>⟨[],rfl,by simp⟩
 | x::xs,h=>by
  obtain ⟨n,hn,hq⟩:=hG x (h x (by simp))
  obtain ⟨l,hl,hq2⟩:=map_ofW hG (xs:=xs) fun y hy=>h y (by simp [hy])
  exact ⟨n::l,by rw [hn,hl];rfl,fun y hy=>(List.mem_cons.1 hy).elim (fun e=>by rw [e];exact hq) (hq2 y)⟩
def isBysW(v:LV):Prop:=∃ b:List Int,v=.isl 1 (bys b)/\byB b
def isOps4(v:LV):Prop:=∃ l:List Act4,v=.isl 4 (Zf l)/\∀ x∈l,byB x.b
theorem i64_wf{n:Int}(h:(Lit.int .i64 n).wf=true):-9223372036854775808<=n:=by
 have e3:i64.min = -9223372036854775808:=rfl;simp only [Lit.wf,Bool.and_eq_true,decide_eq_true_eq] at h;omega
theorem rd_bysW{H:Type}(enc:TypeId × Value->H)(W:World):Rd enc prog R0 W 37 isBysW:=by
 refine (Rd.slice (e:=5) (k:=1) (by kernel_rfl) (by kernel_rfl) (by omega) (Nat.le_of_ble_eq_true (by kernel_rfl)) (Rd.int (k:=.u8) (by kernel_rfl)) (by rintro v ⟨n,rfl,_⟩;rfl)).mono ?_
 rintro v ⟨xs,rfl,h,_⟩;obtain ⟨l,rfl,hq⟩:=map_ofW (f:=LV.int .u8) (Q:=fun n=>0<=n/\n<256) (by rintro x ⟨n,rfl,hw⟩;have:=u8_wf hw;exact ⟨n,rfl,by omega⟩) h
 exact ⟨l,rfl,hq⟩
theorem rd_op4{H:Type}(enc:TypeId × Value->H)(W:World):Rd enc prog R0 W 46 (fun v=>∃ x:Act4,v=opL x/\byB x.b):=by
 have I:=Rd.i (enc:=enc) (P:=prog) (R:=R0) (w:=W) (t:=3) (k:=.i64) (by kernel_rfl)
 have B:=rd_bysW enc W;have N:=Rd.ints (enc:=enc) (P:=prog) (R:=R0) (w:=W) (t:=44) (e:=3) (by kernel_rfl) (by kernel_rfl) (by kernel_rfl) (Nat.le_of_ble_eq_true (by kernel_rfl))
 have hI:∀ v,isInt .i64 v->Z7 v=[v]:=by rintro v ⟨n,rfl⟩;rfl
 have hB:∀ v,isBysW v->Z7 v=[v]:=by rintro v ⟨n,rfl,_⟩;rfl
 have hN:∀ v,isInts v->Z7 v=[v]:=by rintro v ⟨n,rfl⟩;rfl
 refine (Rd.struct1 (Gs:=[isInt .i64,isBysW,isInts,isInt .i64]) Tryz.underlying46 (by kernel_rfl) rfl ?_).mono ?_
 ·intro i f G hf hG
  match i,hf,hG with
  | 0,hf,hG=>cases hf;cases hG;exact ⟨rfl,by kernel_rfl,I,hI⟩
  | 1,hf,hG=>cases hf;cases hG;exact ⟨rfl,by kernel_rfl,B,hB⟩
  | 2,hf,hG=>cases hf;cases hG;exact ⟨rfl,by kernel_rfl,N,hN⟩
  | 3,hf,hG=>cases hf;cases hG;exact ⟨rfl,by kernel_rfl,I,hI⟩
  | i+4,hf,hG=>simp at hG
 ·rintro v ⟨vs,rfl,hl,h⟩
  have hl:vs.length=4:=hl
  match vs,hl with
  | [a,b,c,d],_ =>
   obtain ⟨k,rfl⟩:=h 0 a _ rfl rfl;obtain ⟨b,rfl,hb⟩:=h 1 b _ rfl rfl;obtain ⟨s,rfl⟩:=h 2 c _ rfl rfl;obtain ⟨u,rfl⟩:=h 3 d _ rfl rfl;exact ⟨⟨k,b,s,u⟩,rfl,hb⟩
theorem rd_ops4{H:Type}(enc:TypeId × Value->H)(W:World):Rd enc prog R0 W 22 isOps4:=by
 refine (Rd.slice (e:=46) (k:=4) (by kernel_rfl) (by kernel_rfl) (by omega) (Nat.le_of_ble_eq_true (by kernel_rfl)) (rd_op4 enc W) (by rintro v ⟨b,rfl,_⟩;rfl)).mono ?_
 rintro v ⟨xs,rfl,h,_⟩;obtain ⟨l,rfl,hq⟩:=map_ofW (f:=opL) (Q:=fun x=>byB x.b) (fun x h=>h) h
 exact ⟨l,rfl,hq⟩
theorem sd_lcall(rm at_:Int)(l:List Act4)(h0:0<=rm)(h1:rm<=255)(hat:-9223372036854775808<=at_)(hby:∀ x∈l,byB x.b):
  Z3 prog C0 1301 3 [.int .u8 rm,.int .i64 at_,.isl 4 (Zf l)] ⟨0,[]⟩=some (.bool true,⟨0,[]⟩):=by
 have h:=sd_ok rm at_ l h0 h1 hat hby;have hr:Zc [.int .u8 rm,.int .i64 at_,.isl 4 (Zf l)]=[]:=rfl;have e:Wl (fun b=>ixOf [] b 0) [.int .u8 rm,.int .i64 at_,.isl 4 (Zf l)]=[.int .u8 rm,.int .i64 at_,.isl 4 (Zf l)]:=rfl
 rw [<- e] at h;exact lcall_nil hr h
theorem fits3{A B C:LV->Prop}:∀ {xs:List LV},Fits [A,B,C] xs->∃ a b c,xs=[a,b,c]/\A a/\B b/\C c
 | [a,b,c],h=>⟨a,b,c,rfl,h.1,h.2.1,h.2.2.1⟩
theorem sd_run{xs:List LV}(h:∃ a b c,xs=[a,b,c]/\isU8v a/\isI64 b/\isOps4 c):∃ n,Z3 prog C0 n 3 xs ⟨0,[]⟩=some (.bool true,⟨0,[]⟩)/\Zc xs=[]:=by
 obtain ⟨a,b,c,rfl,⟨n,rfl,hw⟩,⟨k,rfl,hw2⟩,⟨l,rfl,hq⟩⟩:=h
 have q1:=u8_wf hw;exact ⟨1301,sd_lcall n k l q1.1 q1.2 (i64_wf hw2) hq,rfl⟩
theorem sd_params{H:Type}(enc:TypeId × Value->H)(W:World):Params enc prog R0 W Tryz.f3.params.toList [isU8v,isI64,isOps4]:=by
 rw [Tryz.params3];exact ⟨⟨ok1_int (k:=.u8) (by kernel_rfl),Rd.int (by kernel_rfl),by rintro u ⟨l,rfl,_⟩;rfl⟩,⟨ok1_int (k:=.i64) (by kernel_rfl),Rd.int (by kernel_rfl),by rintro u ⟨l,rfl,_⟩;rfl⟩,⟨ok1_slice (e:=46) (by kernel_rfl),rd_ops4 enc W,by rintro u ⟨l,rfl,_⟩;rfl⟩,trivial⟩
theorem enterSd(vs:Array Value)(W:World):(callFunc 3 vs).run prog W=.ok (.enter 3 vs) W:=by kernel_rfl
theorem sd_lifted(os:Os)(started:os.Started)(H:Type)(enc:TypeId × Value->H):
  ReturnsInHanded {} Tryz.checked os 3 .any (fun w args=>(Rows.slotDoesSpec.pre enc prog Tryz.f3 Rows.slotDoesRow.domain false w args/\laidMetH prog laidL w)/\sizedMet enc prog Tryz.f3 (OpenSpec.ofChange Rows.slotDoesSpec) false w args)
   (Rows.slotDoesSpec.post enc prog Tryz.f3 false true false false):=
 lifted_of_lcall_laid (X:=fun w _=>laidMetH prog laidL w) (K:=Tryz.checked) (C:=C0) (Gs:=[isU8v,isI64,isOps4]) (tb:=4) (fun _ _ _ hh h=>h.of_heap hh) (fun _ _ h=>gnd_of_laid h) started own_seat laid_seat extC0 mixed_seat (by kernel_rfl) Tryz.func3 rfl
  (by rw [Tryz.params3];exact of_decide_eq_true (by kernel_rfl)) (by kernel_rfl) (by kernel_rfl) (fun W=>sd_params enc W)
  (fun xs h=>sd_run (fits3 h))
  (fun ds h=>by
   have h:ds.length=3:=h
   match ds,h with
   | [d1,d2,d3],_=>exact ⟨rfl,rfl,rfl⟩)
  enterSd
  (ChangeSpec.witness_at (enc:=enc) (C:=Tryz.checked) (os:=os) (X:=fun w _=>laidMetH prog laidL w) false (laidWorld os) #[.int .u8 0,.int .i64 0,.slice none 0 0] 8 rfl (by kernel_rfl) (by kernel_rfl) (by kernel_rfl) (by kernel_rfl) (by kernel_rfl) (laidWorld_met os _))
theorem sd_over:Rows.slotDoesRow.holds Tryz.pinned (OpenSpec.ofChange Rows.slotDoesSpec):=
 OpenClaim.holds_of_wide 3 Tryz.f3 rfl rfl rfl rfl rfl rfl rfl ⟨rfl,rfl,rfl,rfl,rfl⟩ rfl rfl rfl rfl rfl (by kernel_rfl) Tryz.func3 (by kernel_rfl)
  (of_decide_eq_true (by kernel_rfl)) (by unfold Func.isWrapper;first | (rw [if_pos (by decide +kernel)];kernel_rfl) | (rw [if_neg (by decide +kernel)];exact ⟨rfl,rfl⟩))
  (fun os started H enc _=>sd_lifted os started H enc)
end Go.Mac
namespace Go.Proofs.YtddbfjgodbfaoaaGreatDoor
theorem slotDoes_holds:Rows.SlotDoesCardSaid:=
 Claim7.holds_tied_plain_at .later [] [.handle] true (true,"da1c5a93998b6f02255e9b33770e866f93d0abd298fa9a6af9007610d39c4581") true
  Go.Mac.sd_over (fun _ h=>by cases h) (by kernel_rfl) (fun _ h=>by cases h) slotDoes_row_tie rfl ⟨rfl,rfl⟩ (by kernel_rfl) rfl
  (fun f fn hf hfn=>by
   obtain rfl:f=3:=Option.some.inj ((show Tryz.prog.funcNamed "castellan/castellanlaw10.SlotDoes" = some 3 by kernel_rfl).symm.trans hf) |>.symm
   obtain rfl:fn=Tryz.f3:=(Option.some.inj (Tryz.func3.symm.trans hfn)).symm;exact ⟨by kernel_rfl,fun j t ht=>by
    rw [Tryz.params3] at ht;have h3:t=5∨t=3∨t=22:=by
     rcases j with _ | _ | _ | j
     ·exact .inl (by simpa using ht.symm)
     ·exact .inr (.inl (by simpa using ht.symm))
     ·exact .inr (.inr (by simpa using ht.symm))
     ·simp at ht
    rcases h3 with rfl | rfl | rfl
    ·exact (show Tryz.prog.wantsStandIn 5=false by kernel_rfl)
    ·exact (show Tryz.prog.wantsStandIn 3=false by kernel_rfl)
    ·exact (show Tryz.prog.wantsStandIn 22=false by kernel_rfl)⟩)
  (by kernel_rfl)
end Go.Proofs.YtddbfjgodbfaoaaGreatDoor
