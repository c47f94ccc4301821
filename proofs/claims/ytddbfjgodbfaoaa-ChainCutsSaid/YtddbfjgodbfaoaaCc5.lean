/-
 ChainCuts holds for every input: behind any crash there are the records ahead of the cut, and what was appended behind it; no condition.
-/
import Derived.Test.YtddbfjgodbfaoaaCc1
import Derived.Test.YtddbfjgodbfaoaaCc2
import Derived.Test.YtddbfjgodbfaoaaCc4
import Derived.Test.YtddbfjgodbfaoaaProg
import Derived.KernelRfl
import Derived.Shelf.SlIterI.Nil
import Derived.Shelf.SortM.Plain
import Derived.Shelf.SortM.SortNone
set_option linter.unusedVariables false
set_option linter.unusedSimpArgs false
namespace Go.Mac
open Go Go.Eng Go.Proofs
def kinc(es:List (Int × LV))(n:Int):List (Int × LV):=
 match Yk es n with
 | some (.int k c)=>Wy es n (.int .i64 (c+1))
 | _=>Wy es n (.int .i64 1)
def Wv:List LV->List (Int × LV)->List (Int × LV)
 | [],m=>m
 | .agg [.int _ at_,.nils]::l,m=>Wv l m
 | .agg [.int _ at_,b]::l,m=>Wv l (kinc m at_)
 | _::l,m=>Wv l m
def isU8:LV->Bool
 | .int .u8 _=>true
 | _=>false
def okW:LV->Bool
 | .agg [.int .i64 _,.nils]=>true
 | .agg [.int .i64 _,.isl 1 (x::xs)]=>(x::xs).all isU8
 | _=>false
def xNeeds:List LV->St->Option (LV × St)
 | [.ptr b 0],st=>match st.look b with
  | some (.box e [.int .i64 r,.omap .i64 ks vs,.own el n ps]) =>
   if e=77/\el=88/\n=2/\ps.all okW=true/\ps.length<=1048576 then
    some (.map st.next,st.add (.map .i64 (Wv ps (((ks.zip vs).map (fun x=>x.1)).foldl kinc []))))
   else none
  | _=>none
 | _,_=>none
def xMclone:List LV->St->Option (LV × St)
 | [.ifc t (.map b)],st=>match st.look b with
  | some (.map k es)=>some (.ifc t (.map st.next),st.add (.map k es))
  | _=>none
 | _,_=>none
def isErr:LV->Bool
 | .ifc 71 (.int .i64 _)=>true
 | .ifc 115 (.agg [.str _,.int .i64 _,x])=>isErr x
 | _=>false
def isIn(c:Int):LV->Bool
 | .ifc 71 (.int .i64 n)=>n==c
 | .ifc 115 (.agg [.str _,.int .i64 _,x])=>isIn c x
 | _=>false
def xIs:List LV->St->Option (LV × St)
 | [e,.ifc 71 (.int .i64 c)],st=>match isErr e with
  | true=>some (.bool (isIn c e),st)
  | false=>match e with
   | .nili=>some (.bool false,st)
   | _=>none
 | _,_=>none
def okBs:LV->Bool
 | .isl 1 xs=>xs.all isU8
 | _=>false
def lastOf(at_:Int):List LV->Option LV
 | []=>none
 | .agg [.int _ a,b]::l=>match lastOf at_ l with
  | some x=>some x
  | none=>if a=at_ then some b else none
 | _::l=>lastOf at_ l
def pad64(x:LV):LV:=
 match x with
 | .isl k xs=>.isl 1 ((xs++List.replicate 64 (LV.int .u8 0)).take 64)
 | _=>.isl 1 (List.replicate 64 (LV.int .u8 0))
def xRead:List LV->St->Option (LV × St)
 | [.ptr b 0,.int .i64 at_],st=>match st.look b with
  | some (.box e [.int .i64 r,.omap .i64 ks vs,.own el n ps]) =>
   if e=77/\el=88/\n=2/\ps.all okW=true/\ps.length<=1048576/\vs.all okBs=true then
    if at_<0∨1073741824<at_ then some (.tup [.nils,.ifc 115 (.agg [.str [98,108,111,99,107],.int .i64 at_,.ifc 71 (.int .i64 2)])],st) else
    match lastOf at_ ps with
    | some x=>some (.tup [pad64 x,.nili],st)
    | none=>match Yk (ks.zip vs) at_ with
     | some x=>some (.tup [pad64 x,.nili],st)
     | none=>some (.tup [pad64 .nils,.nili],st)
   else none
  | _=>none
 | _,_=>none
def ascB:List Int->Bool
 | a::b::l=>decide (a<b)&&ascB (b::l)
 | _=>true
def xSorted:List LV->St->Option (LV × St)
 | [.fn g [] [.ptr p 0]],st=>match st.look p with
  | some (.box e [.map b])=>match st.look b with
   | some (.map .i64 es) =>
    if g=65/\ascB (es.map (·.1))=true/\(es.all fun x=>decide (-9223372036854775808<=x.1)&&decide (x.1<=9223372036854775807))=true/\es.length<=1000000 then
     some (.isl 1 ((es.map (·.1)).map (LV.int .i64)),st)
    else none
   | _=>none
  | _=>none
 | _,_=>none
def extB(f:FuncId):Option (List LV->St->Option (LV × St)):=if f=61 then some xMclone else if f=45 then some xNeeds else if f=59 then some xIs else if f=21 then some xRead else if f=48 then some xSorted else none
def Ck:Cfg:=⟨extB,fun f=>f==40||f==999999⟩
noncomputable def via(f:FuncId)(xs:List LV)(st:St):Option (LV × St):=Z3 Try.prog Ck 600 f xs st
noncomputable def C0:Cfg:=⟨fun f=>if f=999999 then some (via 999999) else if f=999999 then some (via 999999) else if f=999999 then some (via 999999) else extB f,fun f=>f==40||f==28⟩
end Go.Mac
namespace Go.Proofs.Ytddbfjgodbfaoaa.Ty
open Go.Eng
theorem agg_23:Yu Try.prog 23=some (false,1):=by kernel_rfl
theorem agg_29:Yu Try.prog 29=some (false,1):=by kernel_rfl
theorem agg_3:Yu Try.prog 3=some (false,1):=by kernel_rfl
theorem agg_74:Yu Try.prog 74=some (false,1):=by kernel_rfl
theorem agg_75:Yu Try.prog 75=some (false,1):=by kernel_rfl
theorem agg_88:Yu Try.prog 88=some (true,2):=by kernel_rfl
theorem cmp_71:cmpT Try.prog 71=some .i64:=by kernel_rfl
theorem elem_75:Xn Try.prog 75=some 88:=by kernel_rfl
theorem field_115_2:fieldT Try.prog 115 2=some (2,false,1):=by kernel_rfl
theorem field_77_1:fieldT Try.prog 77 1=some (1,false,1):=by kernel_rfl
theorem field_77_2:fieldT Try.prog 77 2=some (2,false,1):=by kernel_rfl
theorem field_88_0:fieldT Try.prog 88 0=some (0,false,1):=by kernel_rfl
theorem field_88_1:fieldT Try.prog 88 1=some (1,false,1):=by kernel_rfl
theorem iface_135:Yl Try.prog 135=some true:=by kernel_rfl
theorem iface_138:Yl Try.prog 138=some true:=by kernel_rfl
theorem iface_140:Yl Try.prog 140=some true:=by kernel_rfl
theorem Wg:Yl Try.prog 29=some true:=by kernel_rfl
theorem impl_135_115:implT Try.prog 135 115=some false:=by kernel_rfl
theorem impl_135_71:implT Try.prog 135 71=some false:=by kernel_rfl
theorem impl_138_115:implT Try.prog 138 115=some true:=by kernel_rfl
theorem impl_138_71:implT Try.prog 138 71=some false:=by kernel_rfl
theorem impl_140_71:implT Try.prog 140 71=some false:=by kernel_rfl
theorem ismap_74:isMapT Try.prog 74=true:=by kernel_rfl
theorem issl_23:V2 Try.prog 23=true:=by kernel_rfl
theorem map_74:mapT Try.prog 74=some (.i64,23):=by kernel_rfl
theorem map_91:mapT Try.prog 91=some (.i64,3):=by kernel_rfl
theorem meth_115_Unwrapm:MethT Try.prog 115 "Unwrap" 108:=fun v w=>by kernel_rfl
theorem meth_115_Unwrap(K:FuncId->Prop):ameth Try.prog 115 "Unwrap" K=K 108:=ameth_eq meth_115_Unwrapm K
theorem zero_135:Xp Try.prog 135=some Go.Value.nilIface:=by kernel_rfl
theorem zero_138:Xp Try.prog 138=some Go.Value.nilIface:=by kernel_rfl
theorem zero_140:Xp Try.prog 140=some Go.Value.nilIface:=by kernel_rfl
theorem zero_23:Xp Try.prog 23=some (Go.Value.slice none 0 0):=by kernel_rfl
theorem zero_29:Xp Try.prog 29=some Go.Value.nilIface:=by kernel_rfl
theorem zero_3:Xp Try.prog 3=some (Go.Value.int Go.IntKind.i64 0):=by kernel_rfl
theorem zero_88:Xp Try.prog 88=some (Go.Value.agg #[Go.Value.int Go.IntKind.i64 0,Go.Value.slice none 0 0]):=by kernel_rfl
end Go.Proofs.Ytddbfjgodbfaoaa.Ty
namespace Go.Proofs.Ytddbfjgodbfaoaa.T
open Go Go.Eng Go.Proofs.Ytddbfjgodbfaoaa.Ty
theorem unwrap(op:ByteArray)(at_:Int)(e:AV)(h1:e.one=true):Rets Try.prog 108 [.agg [.v (.string op),.v (.int .i64 at_),e]] e:=by
 refine Rets.of ?_
 refine Meets.body Try.func108 rfl rfl (by simp [Try.ntmps108]) ?_
 repeat' (first | refine AW.seq ?_ | ((first | refine AW.reg (by rfl) ?_ | refine AW.skip ?_ | refine AW.ret ?_ | refine AW.exit ?_);simp only [undef,Yj,aop,ev,ofValue,Zh,Y3,Xa,List.getD_cons_zero,cells_agg,List.length_cons,List.length_nil,List.all_cons,List.all_nil,one_v,Value.oneCell',Bool.and_self,true_and,Nat.reduceAdd,Nat.zero_add,abox,Zk,forall_const,Try.results108,h1]) | refine AW.block ?_ | with_reducible refine AW.condT rfl ?_ | with_reducible refine AW.condF rfl ?_)
 intro b
 repeat' (first | refine AW.seq ?_ | ((first | refine AW.reg (by rfl) ?_ | refine AW.skip ?_ | refine AW.ret ?_ | refine AW.exit ?_);simp only [Yj,aop,ev,Zh,Y3,APost,ares,Y8,Za,Nat.reduceEqDiff,↓reduceIte,List.getElem?_cons_zero,List.getElem?_cons_succ,Nat.zero_add,Xc,Xg,W6,Yb,Zq,field_115_2,agg_29]) | refine AW.block ?_ | with_reducible refine AW.condT rfl ?_ | with_reducible refine AW.condF rfl ?_)
end Go.Proofs.Ytddbfjgodbfaoaa.T
namespace Go.Proofs.Ytddbfjgodbfaoaa.T
open Go Go.Eng Go.Pl Go.Proofs.Ytddbfjgodbfaoaa.Ty
def optA:Option (List AV)->AV
 | none=>.v (.slice none 0 0)
 | some b=>.sl 1 b
theorem optA_one(w:Option (List AV)):(optA w).one=true:=by cases w <;> rfl
def pAV(w:Int × Option (List AV)):AV:=.agg [.v (.int .i64 w.1),optA w.2]
def cnt1(ms:List (Int × Int))(w:Int × Option (List AV)):List (Int × Int):=
 match w.2 with
 | none=>ms
 | some _=>pput ms w.1 ((pget ms w.1).getD 0+1)
def cntP(ps:List (Int × Option (List AV)))(ms:List (Int × Int)):List (Int × Int):=ps.foldl cnt1 ms
theorem cntP_succ{ps:List (Int × Option (List AV))}{i:Nat}(h:i<ps.length)(ms:List (Int × Int)):cntP (ps.take (i+1)) ms=cnt1 (cntP (ps.take i) ms) ps[i]:=by
 unfold cntP;rw [List.take_succ_eq_append_getElem h,List.foldl_append];rfl
theorem pput_get{ms:List (Int × Int)}(n c k:Int):pget (pput ms n c) k=if k=n then some c else pget ms k:=by
 have hk:∀ (l:List (Int × Int)),pget l k=(l.find? (fun p=>p.1==k)).map (·.2):=fun _=>rfl
 unfold pput
 cases hg:pget ms n with
 | none =>
  have hn:=pget_none.1 hg;simp only;rw [hk,List.find?_append]
  split
  ·rename_i he;subst he
   have:ms.find? (fun p=>p.1==k)=none:=by
    have:=hg;unfold pget at this;simpa using this
   rw [this];simp
  ·rename_i he
   have:List.find? (fun p:Int × Int=>p.1==k) [(n,c)]=none:=by simp;exact fun h=>he h.symm
   rw [this,Option.or_none];rfl
 | some x =>
  obtain ⟨h1,h2,h3⟩:=pget_some hg;simp only;generalize hi:ms.findIdx (fun p=>p.1==n)=i at h2 h3
  have hbefore:∀ (l:List (Int × Int)) (i:Nat),l.findIdx (fun p=>p.1==n)=i->(h:i<l.length)->l[i]? = some (n,x)->((l.set i (n,c)).find? (fun p=>p.1==k)).map (·.2)=if k=n then some c else (l.find? (fun p=>p.1==k)).map (·.2):=by
   intro l
   induction l with
   | nil=>intro i _ h;simp at h
   | cons y l ih =>
    intro i hi h hy;rw [List.findIdx_cons] at hi
    cases hyn:(y.1==n) with
    | true =>
     rw [hyn] at hi;simp at hi;subst hi;have hy':y=(n,x):=by simpa using hy
     subst hy';simp only [List.set_cons_zero,List.find?_cons]
     by_cases hkn:k=n
     ·subst hkn;simp
     ·have:(n==k)=false:=by simp;exact fun h=>hkn h.symm
      simp [this,hkn]
    | false =>
     rw [hyn] at hi;simp at hi
     cases i with
     | zero=>omega
     | succ i =>
      have:=ih i (by omega) (by simpa using h) (by simpa using hy)
      simp only [List.set_cons_succ,List.find?_cons]
      by_cases hyk:(y.1==k)=true
      ·simp only [hyk]
       have hne:k≠n:=fun h=>by subst h;rw [hyk] at hyn;simp at hyn
       simp [hne]
      ·have hyk:(y.1==k)=false:=by simpa using hyk
       simp only [hyk];exact this
  exact hbefore ms i hi h2 h3
theorem cntP_nodup:∀ (ps:List (Int × Option (List AV))) {ms:List (Int × Int)},(ms.map (·.1)).Nodup->((cntP ps ms).map (·.1)).Nodup
 | [],ms,h=>h
 | p::ps,ms,h=>by
  unfold cntP;rw [List.foldl_cons];refine cntP_nodup ps ?_
  unfold cnt1
  split
  ·exact h
  ·exact pput_nodup h _ _
theorem cnt1_le{ms:List (Int × Int)}{b:Int}(h:∀ n c,pget ms n=some c->0<c/\c<=b)(hb:0<=b)(w:Int × Option (List AV)):∀ n c,pget (cnt1 ms w) n=some c->0<c/\c<=b+1:=by
 intro n c hc;unfold cnt1 at hc
 split at hc
 ·have:=h n c hc;omega
 ·rw [pput_get] at hc
  split at hc
  ·injection hc with hc
   cases hg:pget ms w.1 with
   | none=>rw [hg] at hc;simp at hc;omega
   | some x=>rw [hg] at hc;simp at hc;have:=h _ _ hg;omega
  ·have:=h n c hc;omega
theorem needs_av(rm:Int)(es:List (Int × AV))(hnd:(es.map (·.1)).Nodup)(ps:List (Int × Option (List AV)))(hne:∀ p∈ps,∀ l,p.2=some l->l≠[])(hlen:ps.length<=1048576):
  Meets Try.prog 45 [.rp (.agg [.v (.int .i64 rm),.mp .i64 es,.sl 2 (ps.map pAV)])] [] (fun r t=>∃ q ms1 t',r=.v (.map (some q))/\t'=[(q,.imap .i64 (imap (cntP ps ms1)))]/\t'.Sublist t/\(ms1.map (·.1)).Nodup/\∀ n,pget ms1 n=if n∈es.map (·.1) then some 1 else none):=by
 obtain ⟨K',hK'⟩:∃ K':AV->Hp->Prop,K'=(fun r t=>∃ q ms1 t',r=.v (.map (some q))/\t'=[(q,.imap .i64 (imap (cntP ps ms1)))]/\t'.Sublist t/\(ms1.map (·.1)).Nodup/\∀ n,pget ms1 n=if n∈es.map (·.1) then some 1 else none):=⟨_,rfl⟩
 rw [<- hK'];refine Meets.body Try.func45 rfl rfl (by simp [Try.ntmps45]) ?_
 repeat' (first | refine AW.seq ?_ | ((first | refine AW.reg (by rfl) ?_ | refine AW.skip ?_ | refine AW.ret ?_ | refine AW.exit ?_);simp only [Yj,aop,ev,ofValue,Zh,Y3,Za,↓reduceIte,amakeMap,Wq,Option.map_none,Zk,forall_const,map_91,Try.results45]) | refine AW.block ?_ | with_reducible refine AW.condT rfl ?_ | with_reducible refine AW.condF rfl ?_)
 intro m
 repeat' (first | refine AW.seq ?_ | ((first | refine AW.reg (by rfl) ?_ | refine AW.skip ?_ | refine AW.ret ?_ | refine AW.exit ?_);simp only [undef,Yj,aop,ev,Zh,Y3,Za,Xa,↓reduceIte,List.getD_cons_zero,List.getElem?_cons_zero,List.getElem?_cons_succ,true_and,and_true,Xc,Xg,W6,arange,ne_eq,Yb,rpart,Zk,Zt,reduceCtorEq,field_77_1,agg_74,ismap_74,rpart]) | refine AW.block ?_ | with_reducible refine AW.condT rfl ?_ | with_reducible refine AW.condF rfl ?_)
 refine ⟨rfl,fun it him=>?_⟩
 refine AW.block ?_
 obtain ⟨H,hH⟩:∃ H:Nat->Env->Hp->Prop,H=fun mm e st=>∃ (done rest:List (Int × AV)) (cur:Option (Int × AV)) (ms:List (Int × Int)),st=[(it,.iter .i64 rest cur),(m,.imap .i64 (imap ms))] /\
   es.Perm (done++rest)/\(ms.map (·.1)).Nodup/\(∀ n,pget ms n=if n∈done.map (·.1) then some 1 else none)/\mm=rest.length/\e 0=.rp (.agg [.v (.int .i64 rm),.mp .i64 es,.sl 2 (ps.map pAV)])/\e 3=.v (.map (some m))/\e 12=.v (.pointer (some ⟨it,0,none⟩)):=⟨_,rfl⟩
 refine (AW.loop H es.length (by rw [hH];exact ⟨[],es,none,[],rfl,by simp,by simp,by simp [pget],rfl,rfl,rfl,rfl⟩) ?_)
 intro mm e st hst;rw [hH] at hst;obtain ⟨done,rest,cur,ms,rfl,hperm,hmn,hmk,rfl,e0,e3,e12⟩:=hst
 repeat' (first | refine AW.seq ?_ | ((first | refine AW.reg (by rfl) ?_ | refine AW.skip ?_ | refine AW.ret ?_ | refine AW.exit ?_);simp only [Yj,aop,ev,Zh,Y3,Za,↓reduceIte,List.getElem?_cons_zero,true_and,and_true,anext,ne_eq,not_false_eq_true,V5,Zq,Zk,Zt,X3,Ym,him,e12]) | refine AW.block ?_ | with_reducible refine AW.condT rfl ?_ | with_reducible refine AW.condF rfl ?_)
 refine ⟨fun hrest=>?_,fun i pr hpri=>?_⟩
 ·subst hrest
  rw [List.append_nil] at hperm;refine AW.seq (AW.condF rfl ?_)
  repeat' (first | refine AW.seq ?_ | ((first | refine AW.reg (by rfl) ?_ | refine AW.skip ?_ | refine AW.ret ?_ | refine AW.exit ?_);simp only [Yj,aop,acall,ev,ofValue,Zh,Y3,Xo,Za,↓reduceIte,List.getElem?_cons_zero,List.getElem?_cons_succ,true_and,Xc,Xg,W6,Yb,rpart,alen,reduceCtorEq,List.length_map,field_77_2,agg_75,elem_75,e0,rpart]) | refine AW.block ?_ | with_reducible refine AW.condT rfl ?_ | with_reducible refine AW.condF rfl ?_)
  refine ⟨rfl,?_⟩
  repeat' (first | refine AW.seq ?_ | refine AW.block ?_ | with_reducible refine AW.condT rfl ?_ | with_reducible refine AW.condF rfl ?_)
  have hmk1:∀ n,pget ms n=if n∈es.map (·.1) then some 1 else none:=fun n=>by rw [hmk n];simp only [(hperm.map (·.1)).mem_iff]
  have hle:∀ i,i<=ps.length->∀ n c,pget (cntP (ps.take i) ms) n=some c->0<c/\c<=1+i:=by
   intro i
   induction i with
   | zero =>
    intro _ n c hc;have:cntP (ps.take 0) ms=ms:=rfl;rw [this,hmk1] at hc
    split at hc <;> simp at hc
    omega
   | succ i ih =>
    intro hi n c hc;rw [cntP_succ (by omega)] at hc
    have:=cnt1_le (ih (by omega)) (by omega) _ n c hc
    push_cast;omega
  have hnd2:∀ i,((cntP (ps.take i) ms).map (·.1)).Nodup:=fun i=>cntP_nodup _ hmn
  obtain ⟨H2,hH2⟩:∃ H2:Nat->Env->Hp->Prop,H2=fun mm e st=>∃ (i:Nat),st=[(m,.imap .i64 (imap (cntP (ps.take i) ms)))] /\
    i<=ps.length/\mm=ps.length-i/\e 3=.v (.map (some m))/\e 24=.sl 2 (ps.map pAV)/\e 25=.v (.int .i64 ps.length)/\e 26=.v (.int .i64 i):=⟨_,rfl⟩
  refine AW.drop (t:=[(m,.imap .i64 (imap ms))]) ?_ (fun p hp=>List.mem_cons_of_mem _ hp) (fun hn=>(List.nodup_cons.1 hn).2)
  refine (AW.loop H2 ps.length ?_ ?_)
  ·rw [hH2]
   refine ⟨0,rfl,by omega,rfl,?_,rfl,rfl,rfl⟩
   simp [Za,e3]
  clear hH e0 e3 e12 hperm hmk
  intro mm e st hst;rw [hH2] at hst;obtain ⟨i,rfl,hi,rfl,e3,e24,e25,e26⟩:=hst
  repeat' (first | refine AW.seq ?_ | ((first | refine AW.reg (by rfl) ?_ | refine AW.skip ?_ | refine AW.ret ?_ | refine AW.exit ?_);simp only [Yj,aop,ev,Zh,Y3,true_and,Xd,aint,e25,e26]) | refine AW.block ?_ | with_reducible refine AW.condT rfl ?_ | with_reducible refine AW.condF rfl ?_)
  refine AW.cond rfl (fun h=>?_) (fun h=>?_)
  ·have hlt:i<ps.length:=by simpa using h
   clear h
   have hat:(ps.map pAV).getD i default=.agg [.v (.int .i64 ps[i].1),optA ps[i].2]:=by rw [List.getD_eq_getElem?_getD,List.getElem?_map,List.getElem?_eq_getElem hlt];rfl
   have hw1:IntKind.i64.wrap (i+1)=i+1:=wrap_i64 (by omega) (by omega)
   have hsucc:=cntP_succ hlt ms;have hl:=hle i (by omega)
   have hn:=hnd2 i;have hlk:=mget_imap (cntP (ps.take i) ms) ps[i].1;generalize cntP (ps.take i) ms=mi at *
   repeat' (first | refine AW.seq ?_ | ((first | refine AW.reg (by rfl) ?_ | refine AW.skip ?_ | refine AW.ret ?_ | refine AW.exit ?_);simp only [undef,Yj,aop,ev,Zh,put_none,Y3,Za,Nat.reduceEqDiff,↓reduceIte,Value.cells,cells_agg,splice,List.map_cons,List.map_nil,List.length_cons,List.length_nil,List.take_zero,List.drop_succ_cons,List.drop_nil,List.nil_append,List.append_nil,List.all_cons,List.all_nil,one_v,Value.oneCell',Bool.and_self,true_and,and_true,Nat.reduceAdd,Nat.zero_add,Nat.le_refl,Xc,Xg,W6,astore,aalloc,ne_eq,aindexAddr,List.size_toArray,Option.map_some,Zq,Zk,Zt,X3,Ym,List.length_map,Int.toNat_natCast,Int.natCast_nonneg,elem_75,agg_88,zero_88,e24,e26,hat,optA_one]) | refine AW.block ?_ | with_reducible refine AW.condT rfl ?_ | with_reducible refine AW.condF rfl ?_)
   refine ⟨by omega,fun b hb=>?_⟩
   have fin:∀ (e:Env) (x y:AV),e 3=.v (.map (some m))->e 24=.sl 2 (ps.map pAV)->e 25=.v (.int .i64 ps.length)->e 26=.v (.int .i64 (i+1)) ->
     LEnd H2 (ps.length-i) e [(b,.cells 88 [x,y] 2),(m,.imap .i64 (imap (cntP (ps.take (i+1)) ms)))]:=by
    intro e x y g1 g2 g3 g4;rw [hH2];refine ⟨ps.length-(i+1),_,by omega,fun p hp=>List.mem_cons_of_mem _ hp,?_,i+1,rfl,hlt,rfl,g1,g2,g3,?_⟩
    ·simp [Hp.keys]
    ·rw [g4];simp
   cases hwi:ps[i].2 with
   | none =>
    rw [hwi] at hat;have hcn:cntP (ps.take (i+1)) ms=mi:=by rw [hsucc];unfold cnt1;rw [hwi]
    rw [hcn] at fin
    try simp only [↓reduceIte,optA,Ne.symm hb]
    repeat' (first | refine AW.seq ?_ | ((first | refine AW.reg (by rfl) ?_ | refine AW.skip ?_ | refine AW.ret ?_ | refine AW.exit ?_);simp only [Yj,aop,ev,ofValue,Zh,Y3,Xo,Za,Nat.reduceEqDiff,↓reduceIte,List.getElem?_cons_zero,List.getElem?_cons_succ,true_and,Nat.zero_add,Xc,Xg,W6,Xd,aint,anils,Yb,Zq,field_88_1,agg_23,issl_23,e26]) | refine AW.block ?_ | with_reducible refine AW.condT rfl ?_ | with_reducible refine AW.condF rfl ?_)
    exact fin _ _ _ (by simp [Za,e3]) (by simp [Za,e24]) (by simp [Za,e25]) (by simp [Za,hw1])
   | some l =>
    rw [hwi] at hat;have hl0:=hne _ (List.getElem_mem hlt) l hwi;obtain ⟨y,ys,rfl⟩:∃ y ys,l=y::ys:=by cases l with
     | nil=>exact absurd rfl hl0
     | cons y ys=>exact ⟨y,ys,rfl⟩
    have hcn:cntP (ps.take (i+1)) ms=pput mi ps[i].1 ((pget mi ps[i].1).getD 0+1):=by rw [hsucc];unfold cnt1;rw [hwi]
    rw [hcn] at fin
    cases hg:pget mi ps[i].1 with
    | none =>
     rw [hg] at hlk fin;have hlk:Eng.mget (imap mi) ps[i].1=none:=hlk;have hput:mput (imap mi) ps[i].1 (.v (.int .i64 1))=imap (pput mi ps[i].1 1):=mput_imap _ _ _;have hw2:IntKind.i64.wrap 1=1:=by decide
     try simp only [↓reduceIte,optA,Ne.symm hb]
     repeat' (first | refine AW.seq ?_ | ((first | refine AW.reg (by rfl) ?_ | refine AW.skip ?_ | refine AW.ret ?_ | refine AW.exit ?_);simp only [undef,Yj,aop,ev,ofValue,Zh,put_none,Y3,Xo,Za,Nat.reduceEqDiff,↓reduceIte,List.getElem?_cons_zero,List.getElem?_cons_succ,true_and,Nat.zero_add,Nat.add_zero,Xc,Xg,W6,Xd,aint,anils,Yb,alookup,Wj,Zq,Zk,X3,Ym,Bool.false_eq_true,Bool.not_false,map_91,zero_3,field_88_1,agg_23,issl_23,field_88_0,agg_3,e3,e26,hb,hlk,hput,hw2,Int.zero_add]) | refine AW.block ?_ | with_reducible refine AW.condT rfl ?_ | with_reducible refine AW.condF rfl ?_)
     exact fin _ _ _ (by simp [Za,e3]) (by simp [Za,e24]) (by simp [Za,e25]) (by simp [Za,hw1])
    | some c0 =>
     rw [hg] at hlk fin;have hlk:Eng.mget (imap mi) ps[i].1=some (.v (.int .i64 c0)):=hlk;have hc0:=hl _ _ hg;have hput:mput (imap mi) ps[i].1 (.v (.int .i64 (c0+1)))=imap (pput mi ps[i].1 (c0+1)):=mput_imap _ _ _;have hw2:IntKind.i64.wrap (c0+1)=c0+1:=wrap_i64 (by omega) (by omega)
     try simp only [↓reduceIte,optA,Ne.symm hb]
     repeat' (first | refine AW.seq ?_ | ((first | refine AW.reg (by rfl) ?_ | refine AW.skip ?_ | refine AW.ret ?_ | refine AW.exit ?_);simp only [undef,Yj,aop,ev,ofValue,Zh,put_none,Y3,Xo,Za,Nat.reduceEqDiff,↓reduceIte,List.getElem?_cons_zero,List.getElem?_cons_succ,true_and,Nat.zero_add,Nat.add_zero,Xc,Xg,W6,Xd,aint,anils,Yb,alookup,Wj,Zq,Zk,X3,Ym,Bool.false_eq_true,Bool.not_false,map_91,zero_3,field_88_1,agg_23,issl_23,field_88_0,agg_3,e3,e26,hb,hlk,hput,hw2]) | refine AW.block ?_ | with_reducible refine AW.condT rfl ?_ | with_reducible refine AW.condF rfl ?_)
     exact fin _ _ _ (by simp [Za,e3]) (by simp [Za,e24]) (by simp [Za,e25]) (by simp [Za,hw1])
  ·have hge:i=ps.length:=by
    have:¬ i<ps.length:=by simpa using h
    omega
   subst hge
   repeat' (first | refine AW.seq ?_ | ((first | refine AW.reg (by rfl) ?_ | refine AW.skip ?_ | refine AW.ret ?_ | refine AW.exit ?_);simp only [Yj,aop,ev,Zh,Y3,Xo,APost,ares,Y8,Za,Nat.reduceEqDiff,↓reduceIte,e3]) | refine AW.block ?_ | with_reducible refine AW.condT rfl ?_ | with_reducible refine AW.condF rfl ?_)
   rw [hK'];refine ⟨m,ms,_,rfl,rfl,?_,hmn,hmk1⟩;rw [List.take_length];exact List.Sublist.refl _
 ·have hri:i<rest.length:=(List.getElem?_eq_some_iff.1 hpri).1
  have hpr:pr=rest[i]:=by
   rw [List.getElem?_eq_getElem hri] at hpri;injection hpri with hpri;exact hpri.symm
  subst hpr;refine AW.seq (AW.cond rfl (fun _=>?_) (fun h=>by simp at h))
  refine AW.skip ?_
  simp only [Y3];have hperm2:es.Perm (rest[i]::(done++rest.eraseIdx i)):=by
   refine hperm.trans ?_
   have:=perm_eraseIdx hri;exact (List.Perm.append_left done this.symm).trans List.perm_middle
  have hnew:rest[i].1∉done.map (·.1):=by
   have:=(hperm2.map (·.1)).nodup_iff.1 hnd;simp only [List.map_cons,List.map_append,List.nodup_cons,List.mem_append,not_or] at this;exact this.1.1
  have hget:pget ms rest[i].1=none:=by rw [hmk,if_neg hnew]
  have hlook:Eng.mget (imap ms) rest[i].1=none:=by rw [mget_imap,hget];rfl
  have hput:mput (imap ms) rest[i].1 (.v (.int .i64 1))=imap (pput ms rest[i].1 1):=mput_imap _ _ _;have hw:IntKind.i64.wrap 1=1:=by decide
  repeat' (first | refine AW.seq ?_ | ((first | refine AW.reg (by rfl) ?_ | refine AW.skip ?_ | refine AW.ret ?_ | refine AW.exit ?_);simp only [undef,Yj,aop,ev,ofValue,Zh,put_none,Y3,Xo,Za,Nat.reduceEqDiff,↓reduceIte,List.getElem?_cons_zero,true_and,Xd,aint,aentry,V5,alookup,Wj,Zq,Zk,X3,Ym,Bool.false_eq_true,map_91,zero_3,him,e3,e12,hlook,hput,Int.zero_add,hw]) | refine AW.block ?_ | with_reducible refine AW.condT rfl ?_ | with_reducible refine AW.condF rfl ?_)
  rw [hH];refine ⟨_,_,?_,fun p hp=>hp,?_,rest[i]::done,rest.eraseIdx i,_,pput ms rest[i].1 1,rfl,hperm2,pput_nodup hmn _ _,fun k=>?_,rfl,e0,e3,e12⟩
  ·rw [List.length_eraseIdx_of_lt hri];omega
  ·simp only [hp_nodup_cons,Zt,hp_nodup_nil,Zk,and_true];exact him
  ·rw [pput_get,hmk k]
   simp only [List.map_cons,List.mem_cons]
   by_cases hk:k=rest[i].1
   ·rw [if_pos hk,if_pos (.inl hk)]
   ·rw [if_neg hk];simp only [hk,false_or]
end Go.Proofs.Ytddbfjgodbfaoaa.T
namespace Go.Mac
open Go Go.Eng Go.Pl Go.Proofs Go.Proofs.Ytddbfjgodbfaoaa.T
def toP(R:Inst):LV->Int × Option (List AV)
 | .agg [.int _ a,.isl _ xs]=>(a,some (Z1 R false xs))
 | .agg [.int _ a,_]=>(a,none)
 | _=>(0,none)
theorem okW_inst{R:Inst}{x:LV}(h:okW x=true):Z0 R false x=pAV (toP R x)/\(∀ l,(toP R x).2=some l->l≠[]):=by
 unfold okW at h
 split at h
 ·exact ⟨by simp [Z0,Z1,toP,pAV,optA],by simp [toP]⟩
 ·exact ⟨by simp [Z0,Z1,toP,pAV,optA],by simp [toP,Z1]⟩
 ·simp at h
theorem inst_int{R:Inst}{l:Bool}{x:LV}{k:IntKind}{c:Int}(h:Z0 R l x=.v (.int k c)):x=.int k c:=by
 cases x
 case int=>cases l <;> simpa [Z0] using h
 case sl k b i n c =>
  cases l
  ·simp [Z0] at h
  ·simp only [Z0,Y0] at h
   split at h <;> simp at h
 case ifc t x =>
  rw [show Z0 R l (.ifc t x)=mkIfc t (Z0 R l x) by cases l <;> simp only [Z0]] at h
  rcases Yf t (Z0 R l x) with ⟨z,e1,e⟩ | e <;> rw [e] at h <;> simp at h
 case fn f a c =>
  cases l <;> simp only [Z0] at h <;> (unfold W8 at h;split at h <;> simp at h)
 all_goals cases l <;> simp [Z0] at h
theorem MapOk.put{R:Inst}{L:List (Int × LV)}{es:List (Int × AV)}(h:MapOk R L es)(n:Int)(x:LV):MapOk R (Wy L n x) (mput es n (Z0 R false x)):=by
 have hL:(L.map (·.1)).Nodup:=h.keys.nodup_iff.1 h.nd;have h1:=mput_perm h.nd n (Z0 R false x);have h2:=kput_perm hL n x;have h3:(W9 R (Wy L n x)).Perm ((n,Z0 R false x)::kfil es n):=by
  have:=h2.map (fun p:Int × LV=>(p.1,Z0 R false p.2))
  refine (show (W9 R (Wy L n x)).Perm _ from this).trans ?_
  rw [List.map_cons];refine List.Perm.cons _ ?_
  have e:List.map (fun p:Int × LV=>(p.1,Z0 R false p.2)) (kfil L n)=kfil (W9 R L) n:=(kfil_mapAV R L n).symm
  rw [e];exact (h.perm.filter _).symm
 refine ⟨h1.trans h3.symm,?_⟩;have:=h1.map (·.1);refine this.nodup_iff.2 ?_
 rw [List.map_cons];exact List.nodup_cons.2 ⟨kfil_not es n,h.nd.sublist ((kfil_sub es n).map _)⟩
theorem kinc_ok{R:Inst}{L:List (Int × LV)}{ms:List (Int × Int)}(h:MapOk R L (imap ms))(n:Int):MapOk R (kinc L n) (imap (pput ms n ((pget ms n).getD 0+1))):=by
 have hg:=h.get n;rw [mget_imap] at hg;unfold kinc
 cases hp:pget ms n with
 | none =>
  rw [hp] at hg;have hk:Yk L n=none:=by
   cases hk:Yk L n with
   | none=>rfl
   | some x=>rw [hk] at hg;simp at hg
  rw [hk];have:=h.put n (.int .i64 1);simp only [Z0,mput_imap] at this;simpa using this
 | some c =>
  rw [hp] at hg;obtain ⟨x,hk,hx⟩:∃ x,Yk L n=some x/\Z0 R false x=.v (.int .i64 c):=by
   cases hk:Yk L n with
   | none=>rw [hk] at hg;simp at hg
   | some x=>rw [hk] at hg;exact ⟨x,rfl,by simpa using hg.symm⟩
  have:=inst_int hx;subst this;rw [hk];have:=h.put n (.int .i64 (c+1));simp only [Z0,mput_imap] at this;simpa using this
theorem pendN_ok{R:Inst}:∀ (ps:List LV) {L:List (Int × LV)} {ms:List (Int × Int)},ps.all okW=true->MapOk R L (imap ms)->MapOk R (Wv ps L) (imap (cntP (ps.map (toP R)) ms))
 | [],L,ms,_,h=>h
 | x::ps,L,ms,ho,h=>by
  simp only [List.all_cons,Bool.and_eq_true] at ho;have hx:=ho.1;unfold okW at hx
  split at hx
  ·exact pendN_ok ps ho.2 h
  ·exact pendN_ok ps ho.2 (kinc_ok h _)
  ·simp at hx
theorem kincs_ok{R:Inst}:∀ (keys:List Int) {L:List (Int × LV)} {ms:List (Int × Int)},keys.Nodup->(∀ k∈keys,k∉ms.map (·.1))->MapOk R L (imap ms)->MapOk R (keys.foldl kinc L) (imap (ms++keys.map fun k=>(k,1)))
 | [],L,ms,_,_,h=>by simpa using h
 | k::keys,L,ms,hn,hd,h=>by
  have hk:pget ms k=none:=pget_none.2 (hd k List.mem_cons_self);have h1:=kinc_ok h k;rw [hk] at h1;have e:pput ms k ((none:Option Int).getD 0+1)=ms++[(k,1)]:=by unfold pput;rw [hk];rfl
  rw [e] at h1;obtain ⟨hn1,hn2⟩:=List.nodup_cons.1 hn;have:=kincs_ok keys (L:=kinc L k) hn2 (fun j hj=>by
   simp only [List.map_append,List.map_cons,List.map_nil,List.mem_append,List.mem_singleton,not_or];exact ⟨hd j (List.mem_cons_of_mem _ hj),fun e=>hn1 (e▸hj)⟩) h1
  simpa using this
theorem pget_mem{ms:List (Int × Int)}(hn:(ms.map (·.1)).Nodup){n c:Int}(h:(n,c)∈ms):pget ms n=some c:=by
 have hi:((imap ms).map (·.1)).Nodup:=by
  have:(imap ms).map (·.1)=ms.map (·.1):=by simp [imap,gmap]
  rw [this];exact hn
 have:=mget_mem hi (n:=n) (u:=.v (.int .i64 c)) (List.mem_map.2 ⟨_,h,rfl⟩);rw [mget_imap] at this
 cases hg:pget ms n with
 | none=>rw [hg] at this;simp at this
 | some x=>rw [hg] at this;simp at this;rw [this]
theorem ones_perm{ms:List (Int × Int)}{keys:List Int}(hn:(ms.map (·.1)).Nodup)(hk:keys.Nodup)(h:∀ n,pget ms n=if n∈keys then some 1 else none):ms.Perm (keys.map fun k=>(k,1)):=by
 have hn1:ms.Nodup:=List.Pairwise.of_map (·.1) (fun a b h e=>h (by rw [e])) hn
 have hn2:(keys.map fun k=>((k,1):Int × Int)).Nodup:=by
  have:((keys.map fun k=>((k,1):Int × Int)).map (·.1)).Nodup:=by
   have e:(keys.map fun k=>((k,1):Int × Int)).map (·.1)=keys:=by
    rw [List.map_map];exact List.map_id _
   rw [e];exact hk
  exact List.Pairwise.of_map (·.1) (fun a b h e=>h (by rw [e])) this
 refine (List.perm_ext_iff_of_nodup hn1 hn2).2 fun p=>?_
 obtain ⟨n,c⟩:=p
 constructor
 ·intro hp
  have:=pget_mem hn hp;rw [h n] at this
  split at this
  ·rename_i hm
   injection this with this
   subst this;exact List.mem_map.2 ⟨n,hm,rfl⟩
  ·simp at this
 ·intro hp
  obtain ⟨k,hk1,e⟩:=List.mem_map.1 hp;injection e with e1 e2
  subst e1;subst e2;have:=h k;rw [if_pos hk1] at this;exact (pget_some this).1
theorem MapOk.of_perm{R:Inst}{L:List (Int × LV)}{es es':List (Int × AV)}(h:MapOk R L es)(hp:es'.Perm es):MapOk R L es':=
 ⟨hp.trans h.perm,(hp.map (·.1)).nodup_iff.2 h.nd⟩
theorem map_new{P:Program}{R:Inst}{st:St}{s:Hp}(hs:SRel P R st s)(k:IntKind){L:List (Int × LV)}{es:List (Int × AV)}(hm:MapOk R L es)(b:Nat)(hb:b∉s.keys):
  LPost P R st (.map st.next) (st.add (.map k L)) (.v (.map (some b))) ((b,.imap k es)::s):=by
 have ha:=Wn R st.next b 0 false;have hx:=ext_self R st.next b 0 false;refine ⟨R.ext st.next b 0 false,_,ha,Nat.le_succ _,by simp only [Z0,hx.1];exact Wk.refl _,by intro d hd;simp [Z5] at hd;subst hd;simp [St.add],HpWk.refl _,?_⟩
 have ho:=ObjE.map (P:=P) (R:=R.ext st.next b 0 false) (b:=st.next) k L es (mapOk_dead hm);rw [hx.1] at ho;exact hs.add _ ha _ _ ho (nodup_cons hb hs.nd) (by simp [Y1])
theorem disk_lies{P:Program}{R:Inst}{b:Nat}{e:Nat}{r:Int}{ks:List Int}{vs ps:List LV}{el n:Nat}{t1:Hp}(h:ObjE P R b (.box e [.int .i64 r,.omap .i64 ks vs,.own el n ps]) t1):
  ∃ q es u3 s3,t1=(R.ρ b,.cells e [.v (.int .i64 r),.v (.map (some q)),u3] 3)::(q,.imap .i64 es)::s3/\MapOk R (ks.zip vs) es /\
   ((ps=[]/\u3=.v (.slice none 0 0)/\s3=[])∨∃ q2 cap,u3=.v (.slice (some ⟨q2,0,none⟩) ps.length cap)/\s3=[(q2,.cells el ((Z1 R false ps).flatMap cellsOf) (cap*n))]/\RowOk (Y4 P el) n cap ps):=by
 cases h with
 | box _ _ us t h =>
  cases h with
  | cons h1 h =>
   cases h with
   | cons h2 h =>
    cases h with
    | cons h3 h =>
     cases h with
     | nil =>
      cases h1 with
      | other _ _ =>
       cases h2 with
       | omap _ _ _ q es hm =>
        cases h3 with
        | ownNil _ _=>exact ⟨q,es,_,[],rfl,hm,.inl ⟨rfl,rfl,rfl⟩⟩
        | own _ _ _ q2 cap _ ho=>exact ⟨q,es,_,_,rfl,hm,.inr ⟨q2,cap,rfl,rfl,ho⟩⟩
        | other _ hp=>simp [LV.plain] at hp
       | other _ hp=>simp [LV.plain] at hp
theorem flat_cells_len{R:Inst}{l:Bool}{n:Nat}:∀ {ps:List LV},(∀ x∈ps,(Z4 x).length=n)->((Z1 R l ps).flatMap cellsOf).length=ps.length*n
 | [],_=>by simp [Z1]
 | x::ps,h=>by
  simp only [Z1,List.flatMap_cons,List.length_append,Zw];rw [flat_cells_len (fun y hy=>h y (List.mem_cons_of_mem _ hy)),Zu,List.length_map,h x List.mem_cons_self,List.length_cons,Nat.add_mul]
  omega
theorem disk_bor{P:Program}{R:Inst}{b e:Nat}{r:Int}{es:List (Int × AV)}{ps:List LV}{el q:Nat}{u3:AV}{s3:Hp}(h2:ps.all okW=true)(h:(ps=[]/\u3=.v (.slice none 0 0)/\s3=[])∨∃ q2 cap,u3=.v (.slice (some ⟨q2,0,none⟩) ps.length cap)/\s3=[(q2,.cells el ((Z1 R false ps).flatMap cellsOf) (cap*2))]/\RowOk (Y4 P el) 2 cap ps):
  ∀ (j:Nat) (u v:AV),[.v (.int .i64 r),.v (.map (some q)),u3][j]? = some u->[.v (.int .i64 r),.mp .i64 es,.sl 2 ((ps.map (toP R)).map pAV)][j]? = some v ->
   Bor ((R.ρ b,.cells e [.v (.int .i64 r),.v (.map (some q)),u3] 3)::(q,.imap .i64 es)::s3) u v:=by
 have hps:(ps.map (toP R)).map pAV=Z1 R false ps:=by
  rw [Zu,List.map_map];apply List.map_congr_left;intro x hx;exact ((okW_inst (List.all_eq_true.1 h2 x hx)).1).symm
 intro j u v hu hv
 match j with
 | 0 =>
  simp at hu hv;subst hu;subst hv;exact .refl _
 | 1 =>
  simp at hu hv;subst hu;subst hv;exact .imap (by simp)
 | 2 =>
  simp only [List.getElem?_cons_succ,List.getElem?_cons_zero,Option.some.injEq] at hu hv;subst hu;subst hv;rw [hps]
  rcases h with ⟨rfl,rfl,rfl⟩ | ⟨q2,cap,rfl,rfl,ho⟩
  ·exact .empty none 0 2
  ·refine .row q2 0 ps.length cap 2 (cap*2) el ((Z1 R false ps).flatMap cellsOf) _ (by simp) (by rw [Zu,List.length_map]) ho.le ho.big ?_ ?_
   ·intro i x hx
    rw [Zu,List.getElem?_map] at hx;obtain ⟨y,hy,rfl⟩:=Option.map_eq_some_iff.1 hx;rw [Zw,Zu,List.length_map];exact ho.cells y (List.mem_of_getElem? hy)
   ·rw [List.drop_zero,List.take_of_length_le]
    rw [flat_cells_len ho.cells];exact Nat.le_refl _
 | j+3=>simp at hu
theorem lm_needs{as_:List LV}{st st':St}{v:LV}(h:xNeeds as_ st=some (v,st')):LMeets Try.prog 45 as_ st v st':=by
 unfold xNeeds at h
 split at h
 case h_2=>simp at h
 rename_i b
 split at h
 case h_2=>simp at h
 rename_i e r ks vs el n ps hl
 split at h
 case isFalse=>simp at h
 rename_i hc;obtain ⟨he,hel,hn,hok,hlen⟩:=hc;subst hel;subst hn;simp only [Option.some.injEq,Prod.mk.injEq] at h;obtain ⟨rfl,rfl⟩:=h
 intro R s hs hr;obtain ⟨t1,t2,hob,_,hperm,_⟩:=hs.ents.focus hl;obtain ⟨q,es,u3,s3,rfl,hm,h3⟩:=disk_lies hob;refine Meets.kn ?_
 refine Meets.use _ t2 hperm.symm ?_
 have hb:=disk_bor (b:=b) (e:=e) (r:=r) (es:=es) (q:=q) hok h3;refine Meets.borrow2 (bs:=[.rp (.agg [.v (.int .i64 r),.mp .i64 es,.sl 2 ((ps.map (toP R)).map pAV)])]) (fun I w xs hrel ha=>?_) ?_
 ·have ha':RVs I xs (.v (.pointer (some ⟨R.ρ b,0,none⟩))::[]):=by simpa [Z1,Z0] using ha
  exact rvs_box (vs:=[.v (.int .i64 r),.mp .i64 es,.sl 2 ((ps.map (toP R)).map pAV)]) List.mem_cons_self (us:=[.v (.int .i64 r),.v (.map (some q)),u3]) (by simp) hb hrel ha'
 refine (needs_av r es hm.nd (ps.map (toP R)) ?_ (by simpa using hlen)).mono ?_
 ·intro p hp l hpl
  obtain ⟨x,hx,rfl⟩:=List.mem_map.1 hp;exact (okW_inst (List.all_eq_true.1 hok x hx)).2 l hpl
 rintro rr t ⟨q',ms1,t',rfl,rfl,hsub,hnd1,hget⟩;have hkeys:(es.map (·.1)).Perm ((ks.zip vs).map (·.1)):=hm.keys;have hkn:((ks.zip vs).map (·.1)).Nodup:=hkeys.nodup_iff.1 hm.nd;have hbase:MapOk R (((ks.zip vs).map (fun x=>x.1)).foldl kinc []) (imap ms1):=by
  have h0:MapOk R [] (imap []):=⟨by simp [W9,imap,gmap],by simp [imap,gmap]⟩
  have h1:=kincs_ok ((ks.zip vs).map (fun x=>x.1)) hkn (by simp) h0
  rw [List.nil_append] at h1;refine h1.of_perm ?_
  exact (ones_perm hnd1 hkn (fun n=>by rw [hget n];simp only [hkeys.mem_iff])).map _
 have hfin:=pendN_ok ps hok hbase;refine ⟨[(q',.imap .i64 (imap (cntP (ps.map (toP R)) ms1)))],fun p hp=>hsub.subset hp,fun _=>by simp [Hp.keys],rfl,?_,?_⟩
 ·intro p hp
  simp only [List.mem_singleton] at hp;subst hp;simp only [AObj.plain,List.all_eq_true];intro p hp;obtain ⟨x,_,rfl⟩:=List.mem_map.1 hp
  rfl
 intro hnk;have hq:q'∉s.keys:=by
  have h1:=(List.nodup_cons.1 (show (q'::Hp.keys ((R.ρ b,.cells e [.v (.int .i64 r),.v (.map (some q)),u3] 3)::(q,.imap .i64 es)::s3++t2)).Nodup from hnk)).1
  exact fun hk=>h1 ((hperm.map (·.1)).mem_iff.1 hk)
 obtain ⟨R',s',g1,g2,g3,g4,g5,g6⟩:=map_new hs .i64 hfin q' hq;exact ⟨R',s',g1,g2,g3,g4,(HpWk.perm (hperm.symm.cons _)).trans g5,g6⟩
theorem lm_mclone{as_:List LV}{st st':St}{v:LV}(h:xMclone as_ st=some (v,st')):LMeets Try.prog 61 as_ st v st':=by
 unfold xMclone at h
 split at h
 case h_2=>simp at h
 rename_i t b
 split at h
 case h_2=>simp at h
 rename_i k es hl;simp only [Option.some.injEq,Prod.mk.injEq] at h;obtain ⟨rfl,rfl⟩:=h
 intro R s hs hr;obtain ⟨t1,t2,hob,_,hperm,_⟩:=hs.ents.focus hl
 cases hob with
 | map _ _ es' hm =>
 refine Meets.extern Try.func61 (by kernel_rfl) (by kernel_rfl) (by kernel_rfl) (by kernel_rfl:_=some Extern.MapsClone.clone) ?_
 intro I w vs hsr ha;have h0:=ha.rv 0 _ rfl;have hvs:vs = #[vs.getD 0 undef]:=by
  have:=ha.len;apply Array.ext
  ·simpa [Z1] using this
  ·intro i h1 h2
   have:i=0:=by simp at h2;omega
   subst this;simp [h1]
 generalize vs.getD 0 undef=v at h0 hvs;have h1:v=.iface t (.map (some (R.ρ b))):=by
  simp only [Z1,Z0,mkIfc] at h0;exact h0.of_v
 subst h1;have hmem:(R.ρ b,AObj.imap k es')∈s:=hperm.mem_iff.2 (by simp)
 obtain ⟨c,cl,hc⟩:=hsr.obj _ _ hmem;have hgo:(getObj (R.ρ b)).run Try.prog w=.ok (.map c cl) w:=by simp [getObj,Sem.run,hc.block]
 obtain ⟨R',s',g1,g2,g3,g4,g5,g6⟩:=map_new hs k hm w.heap.size hsr.fresh_key;refine ⟨.iface t (.map (some w.heap.size)),w.alloc (.map c cl),.v (.iface t (.map (some w.heap.size))),(w.heap.size,.imap k es')::s,I,?_,⟨R',s',g1,g2,?_,?_,g5,g6⟩,hsr.alloc _ _ ?_,.v _,Ext.alloc I s w _ _⟩
 ·subst hvs
  change (getObj (R.ρ b) >>= _).run Try.prog w=_
  rw [Sem.run_bind,hgo]
  rfl
 ·have e:Z0 R' true (.ifc t (.map st.next))=.v (.iface t (.map (some (R'.ρ st.next)))):=by simp only [Z0,mkIfc]
  rw [e];have g3':Wk (.v (.map (some w.heap.size))) (.v (.map (some (R'.ρ st.next)))):=by simpa only [Z0] using g3
  have:=(g3' I _ (.v _)).of_v;injection this with this
  injection this with this
  rw [<- this];exact Wk.refl _
 ·intro b' hb'
  simp only [Z5] at hb';exact g4 b' (by simpa [Z5] using hb')
 ·exact ⟨c,cl,heap_alloc_new w _,hc.full,hc.entry,hc.apart⟩
end Go.Mac
namespace Go.Proofs.Ytddbfjgodbfaoaa.T
open Go Go.Eng Go.Proofs.Ytddbfjgodbfaoaa.Ty
inductive ErrA (c:Int):Nat->Bool->AV->Prop where
 | code (n:Int):ErrA c 0 (n==c) (.v (.iface 71 (.int .i64 n)))
 | wrap (op:ByteArray) (at_:Int) (d:Nat) (b:Bool) (e:AV) (h:ErrA c d b e):ErrA c (d+1) b (.ifc 115 (.agg [.v (.string op),.v (.int .i64 at_),e]))
theorem ErrA.one{c:Int}{d:Nat}{b:Bool}{e:AV}(h:ErrA c d b e):e.one=true:=by cases h <;> rfl
theorem is_av(c:Int)(d:Nat)(b:Bool)(e:AV)(h:ErrA c d b e):
  Meets Try.prog 69 [e,.v (.iface 71 (.int .i64 c)),.v (.bool true)] [] (fun r t=>r=.v (.bool b)):=by
 obtain ⟨K',hK'⟩:∃ K':AV->Hp->Prop,K'=(fun r t=>r=.v (.bool b)):=⟨_,rfl⟩
 rw [<- hK'];refine Meets.body Try.func69 rfl rfl (by simp [Try.ntmps69]) ?_
 repeat' (first | refine AW.seq ?_ | ((first | refine AW.reg (by rfl) ?_ | refine AW.skip ?_ | refine AW.ret ?_ | refine AW.exit ?_);simp only [Yj,aop,ev,ofValue,Zh,Y3,Try.results69]) | refine AW.block ?_ | with_reducible refine AW.condT rfl ?_ | with_reducible refine AW.condF rfl ?_)
 obtain ⟨H,hH⟩:∃ H:Nat->Env->Hp->Prop,H=fun mm e st=>∃ (d:Nat) (x:AV),st=[]/\mm=d/\ErrA c d b x/\e 0=x/\e 1=.v (.iface 71 (.int .i64 c))/\e 2=.v (.bool true):=⟨_,rfl⟩
 refine (AW.loop H d (by rw [hH];exact ⟨d,e,rfl,rfl,h,rfl,rfl,rfl⟩) ?_)
 intro mm e st hst;rw [hH] at hst;obtain ⟨d,x,rfl,rfl,hx,e0,e1,e2⟩:=hst
 clear h
 cases hx with
 | code n =>
  by_cases hn:n=c
  ·subst hn
   repeat' (first | refine AW.seq ?_ | ((first | refine AW.reg (by rfl) ?_ | refine AW.skip ?_ | refine AW.ret ?_ | refine AW.exit ?_);simp only [Yj,aop,ev,ofValue,Zh,Y3,Xo,APost,ares,Y8,Za,Xi,Nat.reduceEqDiff,↓reduceIte,List.getElem?_cons_zero,List.getElem?_cons_succ,and_true,Xd,apick,aifeq,Option.bind_some,reduceCtorEq,Wg,cmp_71,e0,e1,e2,beq_self_eq_true]) | refine AW.block ?_ | with_reducible refine AW.condT rfl ?_ | with_reducible refine AW.condF rfl ?_)
   rw [hK',beq_self_eq_true]
  ·have hn1:(n==c)=false:=by simpa using hn
   repeat' (first | refine AW.seq ?_ | ((first | refine AW.reg (by rfl) ?_ | refine AW.skip ?_ | refine AW.ret ?_ | refine AW.exit ?_);simp only [undef,Yj,aop,ev,ofValue,Zh,Y3,Xo,APost,ares,Y8,Za,Xi,Nat.reduceEqDiff,↓reduceIte,List.getElem?_cons_zero,List.getElem?_cons_succ,true_and,and_true,Xd,apick,aassertAny,V6,aifeq,V5,Option.bind_some,reduceCtorEq,Bool.false_eq_true,Wg,cmp_71,iface_135,zero_135,impl_135_71,iface_138,zero_138,impl_138_71,iface_140,zero_140,impl_140_71,e0,e1,e2,hn1]) | refine AW.block ?_ | with_reducible refine AW.condT rfl ?_ | with_reducible refine AW.condF rfl ?_)
   rw [hK',hn1]
 | wrap op at_ d b x hx =>
  have h1:=hx.one;have fin:∀ e:Env,e 0=x->e 1=.v (.iface 71 (.int .i64 c))->e 2=.v (.bool true)->LEnd H (d+1) e []:=by
   intro e g0 g1 g2;rw [hH];exact ⟨d,[],by omega,by simp,by simp [Hp.keys],d,x,rfl,rfl,hx,g0,g1,g2⟩
  cases hx with
  | code n =>
   repeat' (first | refine AW.seq ?_ | ((first | refine AW.reg (by rfl) ?_ | refine AW.skip ?_ | refine AW.ret ?_ | refine AW.exit ?_);simp only [undef,Yj,aop,acall,ev,ofValue,Zh,Y3,Za,Xi,Nat.reduceEqDiff,↓reduceIte,List.map_nil,List.getElem?_cons_zero,List.getElem?_cons_succ,true_and,and_true,Nat.zero_add,Xd,apick,aassertAny,V6,aifeq,ainvoke,ne_eq,not_false_eq_true,V5,Option.bind_some,reduceCtorEq,Bool.false_eq_true,Wg,iface_135,zero_135,impl_135_115,iface_138,zero_138,impl_138_115,meth_115_Unwrap,e0,e1,e2]) | refine AW.block ?_ | with_reducible refine AW.condT rfl ?_ | with_reducible refine AW.condF rfl ?_)
   refine unwrap op at_ _ h1 _ _ ?_
   skip
   repeat' (first | refine AW.seq ?_ | ((first | refine AW.reg (by rfl) ?_ | refine AW.skip ?_ | refine AW.ret ?_ | refine AW.exit ?_);simp only [Yj,aop,ev,ofValue,Zh,Y3,Xo,Za,↓reduceIte,Xd,anil,isNilC,Wg]) | refine AW.block ?_ | with_reducible refine AW.condT rfl ?_ | with_reducible refine AW.condF rfl ?_)
   exact fin _ (by simp [Za]) (by simp [Za,e1]) (by simp [Za,e2])
  | wrap op2 at2 d2 b2 x2 hx2 =>
   repeat' (first | refine AW.seq ?_ | ((first | refine AW.reg (by rfl) ?_ | refine AW.skip ?_ | refine AW.ret ?_ | refine AW.exit ?_);simp only [undef,Yj,aop,acall,ev,ofValue,Zh,Y3,Za,Xi,Nat.reduceEqDiff,↓reduceIte,List.map_nil,List.getElem?_cons_zero,List.getElem?_cons_succ,true_and,and_true,Xd,apick,aassertAny,V6,aifeq,ainvoke,ne_eq,not_false_eq_true,V5,Option.bind_some,reduceCtorEq,Bool.false_eq_true,Wg,iface_135,zero_135,impl_135_115,iface_138,zero_138,impl_138_115,meth_115_Unwrap,e0,e1,e2]) | refine AW.block ?_ | with_reducible refine AW.condT rfl ?_ | with_reducible refine AW.condF rfl ?_)
   refine unwrap op at_ _ h1 _ _ ?_
   skip
   repeat' (first | refine AW.seq ?_ | ((first | refine AW.reg (by rfl) ?_ | refine AW.skip ?_ | refine AW.ret ?_ | refine AW.exit ?_);simp only [Yj,aop,ev,ofValue,Zh,Y3,Xo,Za,↓reduceIte,Xd,anil,isNilC,Wg]) | refine AW.block ?_ | with_reducible refine AW.condT rfl ?_ | with_reducible refine AW.condF rfl ?_)
   exact fin _ (by simp [Za]) (by simp [Za,e1]) (by simp [Za,e2])
theorem one_arg{I:Imm}{vs:Array Value}{x:Value}(h:RVs I vs [.v x]):vs = #[x]:=by
 have h0:=h.rv 0 _ rfl;have:=h.len;apply Array.ext
 ·simpa using this
 ·intro i h1 h2
  have:i=0:=by simp at h2;omega
  subst this;have h3:=h0.of_v;simp only [Array.getD_eq_getD_getElem?] at h3;rw [Array.getElem?_eq_getElem h1] at h3;simpa using h3
noncomputable def tyH:Value:=typeHandle Try.prog 71
theorem tyof_run(c:Int)(w:World):(Extern.ReflectliteType.typeOf #[.iface 71 (.int .i64 c)]).run Try.prog w=.ok (.iface 133 (.agg #[tyH])) w:=by kernel_rfl
theorem cmp_run(w:World):(Extern.ReflectliteType.method (fun t=>do Extern.Rtype.noPackHeld "Comparable" t;pure (.bool (<- typeInfo t).comparable)) #[.agg #[tyH]]).run Try.prog w=.ok (.bool true) w:=by kernel_rfl
theorem tyof_av(c:Int)(s:Hp)(K:AV->Hp->Prop)(hk:K (.v (.iface 133 (.agg #[tyH]))) s):Meets Try.prog 68 [.v (.iface 71 (.int .i64 c))] s K:=by
 refine Meets.extern Try.func68 (by kernel_rfl) (by kernel_rfl) (by kernel_rfl) (by kernel_rfl:_=some Extern.ReflectliteType.typeOf) ?_
 intro I w vs hs ha;rw [one_arg ha];exact ⟨_,w,_,s,I,tyof_run c w,hk,hs,.v _,Ext.refl _ _ _⟩
theorem cmp_av(s:Hp)(K:AV->Hp->Prop)(hk:K (.v (.bool true)) s):Meets Try.prog 112 [.v (.agg #[tyH])] s K:=by
 refine Meets.extern Try.func112 (by kernel_rfl) (by kernel_rfl) (by kernel_rfl) (by kernel_rfl:_=some (Extern.ReflectliteType.method fun t=>do Extern.Rtype.noPackHeld "Comparable" t;pure (.bool (<- typeInfo t).comparable))) ?_
 intro I w vs hs ha;rw [one_arg ha];exact ⟨_,w,_,s,I,cmp_run w,hk,hs,.v _,Ext.refl _ _ _⟩
theorem eis_av(c:Int)(d:Nat)(b:Bool)(e:AV)(h:ErrA c d b e):
  Meets Try.prog 59 [e,.v (.iface 71 (.int .i64 c))] [] (fun r t=>r=.v (.bool b)):=by
 obtain ⟨K',hK'⟩:∃ K':AV->Hp->Prop,K'=(fun r t=>r=.v (.bool b)):=⟨_,rfl⟩
 rw [<- hK'];refine Meets.body Try.func59 rfl rfl (by simp [Try.ntmps59]) ?_
 cases h with
 | code n =>
  repeat' (first | refine AW.seq ?_ | ((first | refine AW.reg (by rfl) ?_ | refine AW.skip ?_ | refine AW.ret ?_ | refine AW.exit ?_);simp only [undef,Yj,aop,acall,ev,ofValue,Zh,Y3,Za,Xa,Xi,Nat.reduceEqDiff,↓reduceIte,List.getD_cons_zero,List.getD_cons_succ,List.map_cons,List.map_nil,List.nil_append,List.append_nil,List.getElem?_cons_zero,List.getElem?_cons_succ,Xd,apick,anil,isNilC,ainvoke,Option.bind_some,reduceCtorEq,Bool.false_eq_true,Wg,Try.results59]) | refine AW.block ?_ | with_reducible refine AW.condT rfl ?_ | with_reducible refine AW.condF rfl ?_)
  refine tyof_av c _ _ ?_
  refine ⟨112,_,fun w=>Mac.meth?_sound (by kernel_rfl) _ w,?_⟩
  refine cmp_av _ _ ?_
  skip
  repeat' (first | refine AW.seq ?_ | ((first | refine AW.reg (by rfl) ?_ | refine AW.skip ?_ | refine AW.ret ?_ | refine AW.exit ?_);simp only [undef,Yj,aop,acall,ev,Zh,Y3,Za,Xa,Nat.reduceEqDiff,↓reduceIte,List.getD_cons_zero,List.getD_cons_succ,List.map_cons,List.map_nil,List.nil_append,List.append_nil,reduceCtorEq]) | refine AW.block ?_ | with_reducible refine AW.condT rfl ?_ | with_reducible refine AW.condF rfl ?_)
  refine (is_av c _ _ _ (.code n)).mono ?_
  rintro r t rfl
  skip
  repeat' (first | refine AW.seq ?_ | ((first | refine AW.reg (by rfl) ?_ | refine AW.skip ?_ | refine AW.ret ?_ | refine AW.exit ?_);simp only [APost,ares,Y8,Za,↓reduceIte]) | refine AW.block ?_ | with_reducible refine AW.condT rfl ?_ | with_reducible refine AW.condF rfl ?_)
  rw [hK']
 | wrap op at_ d b x hx =>
  repeat' (first | refine AW.seq ?_ | ((first | refine AW.reg (by rfl) ?_ | refine AW.skip ?_ | refine AW.ret ?_ | refine AW.exit ?_);simp only [undef,Yj,aop,acall,ev,ofValue,Zh,Y3,Za,Xa,Xi,Nat.reduceEqDiff,↓reduceIte,List.getD_cons_zero,List.getD_cons_succ,List.map_cons,List.map_nil,List.nil_append,List.append_nil,List.getElem?_cons_zero,List.getElem?_cons_succ,Xd,apick,anil,isNilC,ainvoke,Option.bind_some,reduceCtorEq,Bool.false_eq_true,Wg,Try.results59]) | refine AW.block ?_ | with_reducible refine AW.condT rfl ?_ | with_reducible refine AW.condF rfl ?_)
  refine tyof_av c _ _ ?_
  refine ⟨112,_,fun w=>Mac.meth?_sound (by kernel_rfl) _ w,?_⟩
  refine cmp_av _ _ ?_
  skip
  repeat' (first | refine AW.seq ?_ | ((first | refine AW.reg (by rfl) ?_ | refine AW.skip ?_ | refine AW.ret ?_ | refine AW.exit ?_);simp only [undef,Yj,aop,acall,ev,Zh,Y3,Za,Xa,Nat.reduceEqDiff,↓reduceIte,List.getD_cons_zero,List.getD_cons_succ,List.map_cons,List.map_nil,List.nil_append,List.append_nil,reduceCtorEq]) | refine AW.block ?_ | with_reducible refine AW.condT rfl ?_ | with_reducible refine AW.condF rfl ?_)
  refine (is_av c _ _ _ (.wrap op at_ d b x hx)).mono ?_
  rintro r t rfl
  skip
  repeat' (first | refine AW.seq ?_ | ((first | refine AW.reg (by rfl) ?_ | refine AW.skip ?_ | refine AW.ret ?_ | refine AW.exit ?_);simp only [APost,ares,Y8,Za,↓reduceIte]) | refine AW.block ?_ | with_reducible refine AW.condT rfl ?_ | with_reducible refine AW.condF rfl ?_)
  rw [hK']
theorem eis_nil(c:Int):Meets Try.prog 59 [.v .nilIface,.v (.iface 71 (.int .i64 c))] [] (fun r t=>r=.v (.bool false)):=by
 obtain ⟨K',hK'⟩:∃ K':AV->Hp->Prop,K'=(fun r t=>r=.v (.bool false)):=⟨_,rfl⟩
 rw [<- hK'];refine Meets.body Try.func59 rfl rfl (by simp [Try.ntmps59]) ?_
 repeat' (first | refine AW.seq ?_ | ((first | refine AW.reg (by rfl) ?_ | refine AW.skip ?_ | refine AW.ret ?_ | refine AW.exit ?_);simp only [undef,Yj,aop,ev,ofValue,Zh,Y3,APost,ares,Y8,Za,Xa,Xi,Nat.reduceEqDiff,↓reduceIte,List.getD_cons_zero,List.getD_cons_succ,List.getElem?_cons_zero,List.getElem?_cons_succ,Xd,apick,anil,isNilC,aifeq,Option.bind_some,reduceCtorEq,Wg,Try.results59]) | refine AW.block ?_ | with_reducible refine AW.condT rfl ?_ | with_reducible refine AW.condF rfl ?_)
 rw [hK']
end Go.Proofs.Ytddbfjgodbfaoaa.T
namespace Go.Mac
open Go Go.Eng Go.Pl Go.Proofs Go.Proofs.Ytddbfjgodbfaoaa.T
theorem isErr_ok(R:Inst)(l:Bool)(c:Int):∀ e:LV,isErr e=true->∃ d,ErrA c d (isIn c e) (Z0 R l e)
 | .ifc 71 (.int .i64 n),_=>⟨0,by
   have:Z0 R l (.ifc 71 (.int .i64 n))=.v (.iface 71 (.int .i64 n)):=by cases l <;> simp [Z0,mkIfc]
   rw [this];exact .code n⟩
 | .ifc 115 (.agg [.str s,.int .i64 a,x]),h=>by
   have h':isErr x=true:=by simpa [isErr] using h
   obtain ⟨d,hd⟩:=isErr_ok R l c x h';refine ⟨d+1,?_⟩;have:Z0 R l (.ifc 115 (.agg [.str s,.int .i64 a,x]))=.ifc 115 (.agg [.v (.string ⟨s.toArray⟩),.v (.int .i64 a),Z0 R l x]):=by cases l <;> simp [Z0,Z1,mkIfc]
   rw [this];have e2:isIn c (.ifc 115 (.agg [.str s,.int .i64 a,x]))=isIn c x:=by simp [isIn]
   rw [e2];exact .wrap _ _ _ _ _ hd
theorem lm_is{as_:List LV}{st st':St}{v:LV}(h:xIs as_ st=some (v,st')):LMeets Try.prog 59 as_ st v st':=by
 unfold xIs at h
 split at h
 case h_2=>simp at h
 rename_i e c;have hc:∀ R:Inst,Z1 R true [e,.ifc 71 (.int .i64 c)]=[Z0 R true e,.v (.iface 71 (.int .i64 c))]:=fun R=>by simp [Z1,Z0,mkIfc]
 split at h
 ·rename_i he
  simp only [Option.some.injEq,Prod.mk.injEq] at h;obtain ⟨rfl,rfl⟩:=h
  intro R s hs hr;obtain ⟨d,hd⟩:=isErr_ok R true c e he;rw [hc];refine Meets.alone ((eis_av c d _ _ hd).mono ?_);rintro r t rfl;exact LPost.pure hs (by simp only [Z0];exact Wk.refl _) (by simp [Z5])
 ·split at h
  ·simp only [Option.some.injEq,Prod.mk.injEq] at h
   obtain ⟨rfl,rfl⟩:=h
   intro R s hs hr;rw [hc];simp only [Z0];refine Meets.alone ((eis_nil c).mono ?_);rintro r t rfl;exact LPost.pure hs (by simp only [Z0];exact Wk.refl _) (by simp [Z5])
  ·simp at h
end Go.Mac
namespace Go.Mac
open Go.Proofs Go.RowKit Go.Maps Go.Sort Go.Shelf
def keysA_ren:Go.Shelf.Ren:=⟨fun | 7=>49 | 10=>65 | n=>n,fun | 23=>74 | 26=>3 | 3=>23 | 28=>99 | 0=>0 | 27=>98 | 33=>120 | 4=>4 | n=>n,fun n=>n⟩
theorem keysA:SlLaysZI.n7 Try.prog keysA_ren where
 mixed:=by kernel_rfl
 f7:=⟨ "maps.Keys[map[int][]byte,int,[]byte]",by decide,Try.func49.trans (congrArg some (by kernel_rfl))⟩
 f10:=⟨ "maps.Keys[map[int][]byte,int,[]byte]$1",by decide,Try.func65.trans (congrArg some (by kernel_rfl))⟩
 t0:=Try.underlying0
 a0:=Try.isAgg0
 z0:=Try.sizeOf0
 v0:=Try.zeroValue0
 t4:=Try.underlying4
 a4:=Try.isAgg4
 z4:=Try.sizeOf4
 v4:=Try.zeroValue4
 t23:=Try.underlying74
 a23:=Try.isAgg74
 z23:=Try.sizeOf74
 v23:=Try.zeroValue74
 t26:=Try.underlying3
 a26:=Try.isAgg3
 z26:=Try.sizeOf3
 v26:=Try.zeroValue3
 t27:=Try.underlying98
 a27:=Try.isAgg98
 z27:=Try.sizeOf98
 v27:=Try.zeroValue98
 t28:=Try.underlying99
 a28:=Try.isAgg99
 z28:=Try.sizeOf99
 v28:=Try.zeroValue99
 t33:=Try.underlying120
 a33:=Try.isAgg120
 z33:=Try.sizeOf120
 v33:=Try.zeroValue120
def sortedA_ren:Go.Shelf.Ren:=⟨fun | 6=>48 | 8=>63 | 9=>64 | 11=>70 | 13=>72 | 12=>71 | 23=>82 | 24=>83 | 14=>73 | 15=>74 | 16=>75 | 17=>76 | 18=>77 | 19=>78 | 20=>79 | 21=>80 | 22=>81 | 25=>84 | 26=>85 | 27=>86 | 28=>87 | 29=>88 | 30=>89 | 31=>90 | n=>n,fun | 26=>3 | 28=>99 | 24=>24 | 0=>0 | 3=>3 | 37=>85 | 48=>153 | 50=>121 | 4=>4 | 40=>145 | 39=>144 | 45=>150 | 5=>5 | 9=>9 | 51=>155 | 55=>159 | 57=>161 | 58=>162 | 33=>120 | n=>n,fun n=>n⟩
theorem sortedA:SlLaysZI.n6 Try.prog sortedA_ren where
 mixed:=by kernel_rfl
 f6:=⟨ "slices.Sorted[int]",by decide,Try.func48.trans (congrArg some (by kernel_rfl))⟩
 f8:=⟨ "slices.Collect[int]",by decide,Try.func63.trans (congrArg some (by kernel_rfl))⟩
 f11:=⟨ "slices.AppendSeq[[]int,int]",by decide,Try.func70.trans (congrArg some (by kernel_rfl))⟩
 t0:=Try.underlying0
 a0:=Try.isAgg0
 z0:=Try.sizeOf0
 v0:=Try.zeroValue0
 t24:=Try.underlying24
 a24:=Try.isAgg24
 z24:=Try.sizeOf24
 v24:=Try.zeroValue24
 t26:=Try.underlying3
 a26:=Try.isAgg3
 z26:=Try.sizeOf3
 v26:=Try.zeroValue3
 t28:=Try.underlying99
 a28:=Try.isAgg99
 z28:=Try.sizeOf99
 v28:=Try.zeroValue99
 i26:=by kernel_rfl
def sortA_ren:Go.Shelf.Ren:=⟨fun | 5=>64 | 8=>72 | 7=>71 | 19=>82 | 20=>83 | 10=>73 | 11=>74 | 12=>75 | 13=>76 | 14=>77 | 15=>78 | 16=>79 | 17=>80 | 18=>81 | 30=>84 | 31=>85 | 32=>86 | 33=>87 | 34=>88 | 35=>89 | 40=>90 | n=>n,fun | 23=>24 | 25=>3 | 3=>3 | 32=>85 | 22=>24 | 0=>0 | 44=>153 | 46=>121 | 4=>4 | 36=>145 | 35=>144 | 41=>150 | 5=>5 | 9=>9 | 53=>155 | 57=>159 | 63=>161 | 64=>162 | n=>n,fun n=>n⟩
theorem sortA:SlLaysM.n5 Try.prog sortA_ren where
 mixed:=by kernel_rfl
 f5:=⟨ "slices.Sort[[]int,int]",by decide,Try.func64.trans (congrArg some (by kernel_rfl))⟩
 f7:=⟨ "slices.pdqsortOrdered[int]",by decide,Try.func71.trans (congrArg some (by kernel_rfl))⟩
 f8:=Try.func72.trans (congrArg some (by kernel_rfl))
 f10:=⟨ "slices.insertionSortOrdered[int]",by decide,Try.func73.trans (congrArg some (by kernel_rfl))⟩
 f11:=⟨ "slices.heapSortOrdered[int]",by decide,Try.func74.trans (congrArg some (by kernel_rfl))⟩
 f12:=⟨ "slices.breakPatternsOrdered[int]",by decide,Try.func75.trans (congrArg some (by kernel_rfl))⟩
 f13:=⟨ "slices.choosePivotOrdered[int]",by decide,Try.func76.trans (congrArg some (by kernel_rfl))⟩
 f14:=⟨ "slices.reverseRangeOrdered[int]",by decide,Try.func77.trans (congrArg some (by kernel_rfl))⟩
 f15:=⟨ "slices.partialInsertionSortOrdered[int]",by decide,Try.func78.trans (congrArg some (by kernel_rfl))⟩
 f16:=⟨ "cmp.Less[int]",by decide,Try.func79.trans (congrArg some (by kernel_rfl))⟩
 f17:=⟨ "slices.partitionEqualOrdered[int]",by decide,Try.func80.trans (congrArg some (by kernel_rfl))⟩
 f18:=⟨ "slices.partitionOrdered[int]",by decide,Try.func81.trans (congrArg some (by kernel_rfl))⟩
 f19:=Try.func82.trans (congrArg some (by kernel_rfl))
 f20:=Try.func83.trans (congrArg some (by kernel_rfl))
 f30:=⟨ "slices.siftDownOrdered[int]",by decide,Try.func84.trans (congrArg some (by kernel_rfl))⟩
 f31:=Try.func85.trans (congrArg some (by kernel_rfl))
 f32:=Try.func86.trans (congrArg some (by kernel_rfl))
 f33:=⟨ "slices.medianAdjacentOrdered[int]",by decide,Try.func87.trans (congrArg some (by kernel_rfl))⟩
 f34:=⟨ "slices.medianOrdered[int]",by decide,Try.func88.trans (congrArg some (by kernel_rfl))⟩
 f35:=⟨ "cmp.isNaN[int]",by decide,Try.func89.trans (congrArg some (by kernel_rfl))⟩
 f40:=⟨ "slices.order2Ordered[int]",by decide,Try.func90.trans (congrArg some (by kernel_rfl))⟩
 t0:=Try.underlying0
 a0:=Try.isAgg0
 z0:=Try.sizeOf0
 v0:=Try.zeroValue0
 t3:=Try.underlying3
 a3:=Try.isAgg3
 z3:=Try.sizeOf3
 v3:=Try.zeroValue3
 t4:=Try.underlying4
 a4:=Try.isAgg4
 z4:=Try.sizeOf4
 v4:=Try.zeroValue4
 t5:=Try.underlying5
 a5:=Try.isAgg5
 z5:=Try.sizeOf5
 v5:=Try.zeroValue5
 t9:=Try.underlying9
 a9:=Try.isAgg9
 z9:=Try.sizeOf9
 v9:=Try.zeroValue9
 t22:=Try.underlying24
 a22:=Try.isAgg24
 z22:=Try.sizeOf24
 v22:=Try.zeroValue24
 t23:=Try.underlying24
 a23:=Try.isAgg24
 z23:=Try.sizeOf24
 v23:=Try.zeroValue24
 t25:=Try.underlying3
 a25:=Try.isAgg3
 z25:=Try.sizeOf3
 v25:=Try.zeroValue3
 t32:=Try.underlying85
 a32:=Try.isAgg85
 z32:=Try.sizeOf85
 v32:=Try.zeroValue85
 t35:=Try.underlying144
 a35:=Try.isAgg144
 z35:=Try.sizeOf144
 v35:=Try.zeroValue144
 t36:=Try.underlying145
 a36:=Try.isAgg145
 z36:=Try.sizeOf145
 v36:=Try.zeroValue145
 t41:=Try.underlying150
 a41:=Try.isAgg150
 z41:=Try.sizeOf150
 v41:=Try.zeroValue150
 t44:=Try.underlying153
 a44:=Try.isAgg153
 z44:=Try.sizeOf153
 v44:=Try.zeroValue153
 t46:=Try.underlying121
 a46:=Try.isAgg121
 z46:=Try.sizeOf121
 v46:=Try.zeroValue121
 t53:=Try.underlying155
 a53:=Try.isAgg155
 z53:=Try.sizeOf155
 v53:=Try.zeroValue155
 t57:=Try.underlying159
 a57:=Try.isAgg159
 z57:=Try.sizeOf159
 v57:=Try.zeroValue159
 t63:=Try.underlying161
 a63:=Try.isAgg161
 z63:=Try.sizeOf161
 v63:=Try.zeroValue161
 t64:=Try.underlying162
 a64:=Try.isAgg162
 z64:=Try.sizeOf162
 v64:=Try.zeroValue162
end Go.Mac
namespace Go.Mac
open Go Go.Eng Go.Proofs Go.RowKit Go.Maps Go.Sort Go.Shelf Go.WideElems
theorem sorts_seat(m:Nat):AnyZI.SortsIn Try.prog sortedA_ren Fence.wide m:=
 ⟨fun blk off cap ss W hH hblk hsz=>callsIn_wide.2 (AnyM.slices_Sort_int sortA blk off cap ss W hH hblk hsz),
  fun p cap W=>callsIn_wide.2 (AnyM.slices_Sort_int_none sortA p cap W)⟩
def RU:Value->Option (DataW Unit × List MemPlace):=fun _=>some (.nil,[])
theorem rd_int{k:Int}(hk:(Lit.int .i64 k).wf=true)(v:Value)(n:Nat):rd Try.prog 3 RU ⟨encZ k,v,n⟩=some (.int .i64 k,.nil):=by
 have h:=Try.underlying3;unfold WideElems.rd;simp [RU,keyOf,mapKey,h,hk]
theorem sorted_calls(w:World)(p b:Nat)(c:Array MapEntry)(cl:Nat)(keys:List Int)(hp:w.cell? ⟨p,0,none⟩=some (.map (some b)))(hplt:p<w.heap.size)(hb:w.heap[b]? = some (.map c cl))(hst:MapKept.Stamped c cl)(hkeys:c.toList.map (·.key)=keys.map encZ)(hwf:∀ k∈keys,(Lit.int .i64 k).wf=true)(hlen:keys.length<=1000000):
  Calls Try.prog 48 #[.func (.func 65) #[] #[.pointer (some ⟨p,0,none⟩)]] w fun e w'=>∃ v,e=.returned v /\
   w'.ownsRow w.heap.size 3 1 v keys.length ((keys.mergeSort leI).map encZ)/\(v=.slice none 0 0↔keys=[])/\Below w.heap.size w w':=by
 have hcl:c.toList.length=keys.length:=by
  have:=congrArg List.length hkeys;simpa using this
 have hsz:c.size=keys.length:=by simpa using hcl
 have hrd:∀ x∈c.toList,∃ k,x.key=encZ k/\k∈keys/\rd Try.prog 3 RU x=some (.int .i64 k,.nil):=by
  intro x hx;have:x.key∈keys.map encZ:=by rw [<- hkeys];exact List.mem_map.2 ⟨x,hx,rfl⟩
  obtain ⟨k,hk,he⟩:=List.mem_map.1 this;refine ⟨k,he.symm,hk,?_⟩;obtain ⟨xk,xv,xb⟩:=x
  simp only at he;subst he;exact rd_int (hwf k hk) xv xb
 have hfit:Fit Try.prog 3 RU c cl:=⟨by rw [hsz];unfold maxLen;omega,hst,fun x hx=>by obtain ⟨k,_,_,h⟩:=hrd x hx;exact ⟨_,h⟩⟩
 have hown:w.ownsMap Try.prog 3 RU b c.size (.map ((c.toList.map (rg Try.prog 3 RU)).foldr DataW.insert [])):=⟨c,cl,hb,hfit,Nat.le_refl _,rfl⟩;have hperm:=WideShapes.sorted_perm (c.toList.map (rg Try.prog 3 RU));have hrgk:(c.toList.map (rg Try.prog 3 RU)).map (fun p=>intOf p.1)=keys:=by
  have h1:∀ (l:List MapEntry) (ks:List Int),(∀ x∈l,∃ k,x.key=encZ k/\rd Try.prog 3 RU x=some (.int .i64 k,.nil))->l.map (·.key)=ks.map encZ->(l.map (rg Try.prog 3 RU)).map (fun p=>intOf p.1)=ks:=by
   intro l
   induction l with
   | nil=>intro ks _ h;cases ks with
    | nil=>rfl
    | cons k ks=>simp at h
   | cons x l ih =>
    intro ks h1 h2
    cases ks with
    | nil=>simp at h2
    | cons k ks =>
     simp only [List.map_cons,List.cons.injEq] at h2;obtain ⟨k',e,hr⟩:=h1 x (by simp)
     have:k=k':=encZ_inj (h2.1.symm.trans e);subst this;simp only [List.map_cons,List.cons.injEq];exact ⟨by rw [rg_of hr];rfl,ih ks (fun y hy=>h1 y (by simp [hy])) h2.2⟩
  exact h1 _ _ (fun x hx=>by obtain ⟨k,e,_,h⟩:=hrd x hx;exact ⟨k,e,h⟩) hkeys
 have hik:(intKeys (DataW.map ((c.toList.map (rg Try.prog 3 RU)).foldr DataW.insert []))).Perm keys:=by
  show (((c.toList.map (rg Try.prog 3 RU)).foldr DataW.insert []).map fun p=>intOf p.1).Perm keys
  rw [<- hrgk];exact hperm.map _
 have hsize:Maps.size (DataW.map ((c.toList.map (rg Try.prog 3 RU)).foldr DataW.insert []))=keys.length:=by
  rw [Maps.size_eq,hperm.length_eq,List.length_map,hcl]
 have hseq:SeqGives Fence.wide 2 Try.prog 65 #[.pointer (some ⟨p,0,none⟩)] encZ (fun ss=>ss.Perm (intKeys (DataW.map ((c.toList.map (rg Try.prog 3 RU)).foldr DataW.insert [])))) keys.length w:=by
  rw [<- hsize];exact AnyZI.keys_gives (ρ:=keysA_ren) { keysA with } Fence.wide _ trivial rfl (by omega) p b c.size _ w hplt hp hown
 have cS:=AnyZI.sorted_in sortedA Fence.wide 5 trivial trivial trivial trivial rfl (by omega) (sorts_seat _) (enters_of Try.func64 (by kernel_rfl) rfl) 65 #[.pointer (some ⟨p,0,none⟩)] trivial (enters_of Try.func65 (by kernel_rfl) rfl) _ _ (by unfold maxLen;omega) (by omega) _ hseq
 refine (callsIn_wide (n:=5)).1 (cS.mono ?_);rintro e w' ⟨v,ss,rfl,hS,hrow,hnil,hbel⟩;have hp2:=hS.trans hik;have hms:ss.mergeSort (fun x y=>decide (x<=y))=keys.mergeSort leI:=mergeSort_of_perm_i hp2
 refine ⟨v,rfl,?_,?_,hbel⟩
 ·rw [<- hms,<- hp2.length_eq]
  exact hrow
 ·rw [hnil]
  exact ⟨fun h=>by rw [h] at hp2;exact hp2.symm.eq_nil,fun h=>by rw [h] at hp2;exact hp2.eq_nil⟩
end Go.Mac
namespace Go.Mac
open Go Go.Eng Go.Proofs
theorem ascB_pair:∀ {l:List Int},ascB l=true->l.Pairwise (fun a b=>a<=b)
 | [],_=>.nil
 | [_],_=>.cons (by simp) .nil
 | a::b::l,h=>by
  simp only [ascB,Bool.and_eq_true,decide_eq_true_eq] at h;have ih:=ascB_pair h.2;refine .cons (fun c hc=>?_) ih
  rcases List.mem_cons.1 hc with rfl | hc
  ·omega
  ·have:=(List.pairwise_cons.1 ih).1 c hc
   omega
theorem sort_asc{l k:List Int}(h:ascB l=true)(hp:k.Perm l):k.mergeSort leI=l:=by
 rw [mergeSort_of_perm_i hp];exact List.mergeSort_of_pairwise ((ascB_pair h).imp fun h=>by simpa [leI] using h)
theorem rel_below{I J:Imm}{s:Hp}{w w':World}(h:Rel I s w)(hb:RowKit.Below w.heap.size w w')(hI:I.le J)(hJ:∀ b o,J b=some o->w'.heap[b]? = some o)(hf:∀ b∈s.keys,J b=none):Rel J s w':=
 ⟨hJ,fun b o ho=>(h.obj b o ho).move (hb.block b (h.obj b o ho).lt) hI,hf,h.nodup,h.gnd.mono hI⟩
theorem key_lt{I:Imm}{s:Hp}{w:World}(h:Rel I s w){b:Nat}(hb:b∈s.keys):b<w.heap.size:=by
 obtain ⟨x,hx,rfl⟩:=List.mem_map.1 hb;exact (h.obj x.1 x.2 hx).lt
theorem rvs_one{I:Imm}{vs:Array Value}{v:Value}(h:RVs I vs [.v v]):vs = #[v]:=by
 have h1:vs.size=1:=by simpa using h.len
 have h2:=(h.rv 0 (.v v) rfl).of_v;apply Array.ext
 ·simp [h1]
 ·intro i hi hi2
  have:i=0:=by simp at hi2;omega
  subst this;have:vs.getD 0 undef=vs[0]:=by simp [Array.getD,h1]
  rw [<- this,h2];rfl
theorem lm_sorted{as_:List LV}{st st':St}{v:LV}(h:xSorted as_ st=some (v,st')):LMeets Try.prog 48 as_ st v st':=by
 unfold xSorted at h
 split at h
 case h_2=>simp at h
 rename_i g p
 split at h
 case h_2=>simp at h
 rename_i e b hlp
 split at h
 case h_2=>simp at h
 rename_i es hlb
 split at h
 case isFalse=>simp at h
 rename_i hc;obtain ⟨rfl,hasc,hwf,hlen⟩:=hc;simp only [Option.some.injEq,Prod.mk.injEq] at h;obtain ⟨rfl,rfl⟩:=h
 intro R s hs hr;unfold Meets;intro I w vs hrel hvs;obtain ⟨t1,t2,hob,_,hperm,_⟩:=hs.ents.focus hlp;obtain ⟨t3,t4,hob2,_,hperm2,_⟩:=hs.ents.focus hlb;have hin1:(R.ρ p,AObj.cells e [.v (.map (some (R.ρ b)))] 1)∈s:=by
  cases hob with
  | box _ _ us t h =>
   cases h with
   | cons h1 h =>
    cases h with
    | nil =>
     cases h1 with
     | other _ _ =>
      refine hperm.mem_iff.2 ?_
      simp [Z0]
 obtain ⟨es',hin2,hmok⟩:∃ es',(R.ρ b,AObj.imap .i64 es')∈s/\MapOk R es es':=by
  cases hob2 with
  | map _ _ es' hm=>exact ⟨es',hperm2.mem_iff.2 (by simp),hm⟩
 have hkp:(es'.map (·.1)).Perm (es.map (·.1)):=by
  have:=hmok.perm.map (·.1);simpa [W9,Function.comp_def] using this
 have hvs':vs = #[.func (.func 65) #[] #[.pointer (some ⟨R.ρ p,0,none⟩)]]:=rvs_one (by simpa [Z1,Z0,W8,Yg] using hvs)
 subst hvs';obtain ⟨c0,hc0⟩:=hrel.obj _ _ hin1;obtain ⟨c,cl,hm⟩:=hrel.obj _ _ hin2;have hcell:w.cell? ⟨R.ρ p,0,none⟩=some (.map (some (R.ρ b))):=by
  obtain ⟨x,h1,h2⟩:=hc0.cell 0 _ rfl;rw [h2.of_v] at h1;simp [World.cell?,hc0.block,h1]
 have hent:∀ j (hj:j<c.size),∃ q:Int × AV,es'[j]? = some q/\c[j].key=.int .i64 q.1/\c[j].born<cl:=by
  intro j hj;have hj':j<es'.length:=by rw [<- hm.full];exact hj
  obtain ⟨m,h1,h2,_,h4⟩:=hm.entry j es'[j] (List.getElem?_eq_getElem hj');rw [Array.getElem?_eq_getElem hj] at h1;injection h1 with h1
  subst h1;exact ⟨es'[j],List.getElem?_eq_getElem hj',h2,h4⟩
 have hkeys:c.toList.map (·.key)=(es'.map (·.1)).map encZ:=by
  apply List.ext_getElem?;intro j;rw [List.getElem?_map,List.getElem?_map,List.getElem?_map]
  by_cases hj:j<c.size
  ·obtain ⟨q,h1,h2,_⟩:=hent j hj
   rw [h1];simp [hj,h2]
  ·have hj':¬ j<es'.length:=by rw [<- hm.full];exact hj
   rw [List.getElem?_eq_none (by simpa using hj),List.getElem?_eq_none (by omega)]
   rfl
 have hst:MapKept.Stamped c cl:=by
  refine ⟨fun x hx=>?_,?_,?_⟩
  ·obtain ⟨j,hj,rfl⟩:=List.mem_iff_getElem.1 hx
   have hj':j<c.size:=by simpa using hj
   obtain ⟨_,_,_,h⟩:=hent j hj';simpa using h
  ·refine List.pairwise_iff_getElem.2 fun i j hi hj hij heq=>?_
   have hj':j<c.size:=by simpa using hj
   have hi':i<c.size:=by simpa using hi
   have:=hm.apart i j c[i] c[j] (Array.getElem?_eq_getElem hi') (Array.getElem?_eq_getElem hj') (by simpa using heq)
   omega
  ·rw [hkeys]
   have:=hmok.nd;exact List.Pairwise.map _ (fun a b hne heq=>hne (encZ_inj heq)) this
 have hw:∀ k∈es'.map (·.1),(Lit.int .i64 k).wf=true:=by
  intro k hk;have hk:=hkp.mem_iff.1 hk;obtain ⟨x,hx,rfl⟩:=List.mem_map.1 hk;have:=List.all_eq_true.1 hwf x hx;simp only [Bool.and_eq_true,decide_eq_true_eq] at this;have e1:IntKind.i64.min = -9223372036854775808:=rfl;have e2:IntKind.i64.max=9223372036854775807:=rfl;simp only [Lit.wf,Bool.and_eq_true,decide_eq_true_eq];omega
 have hl2:(es'.map (·.1)).length<=1000000:=by rw [hkp.length_eq];simpa using hlen
 have hC:=sorted_calls w (R.ρ p) (R.ρ b) c cl (es'.map (·.1)) hcell (hrel.obj _ _ hin1).lt hm.block hst hkeys hw hl2;rw [sort_asc hasc hkp,hkp.length_eq] at hC;refine .inl ⟨by kernel_rfl,hC.mono fun e' w' ⟨v,he,hrow,hnil,hbel⟩=>⟨v,he,?_⟩⟩
 have hpost:∀ J:Imm,LPost Try.prog R st (.isl 1 ((es.map (·.1)).map (LV.int .i64))) st (.sl 1 ((es.map (·.1)).map fun k=>AV.v (.int .i64 k))) s:=fun _=>by
  refine LPost.pure hs ?_ ?_
  ·simp only [Z0,Zu,List.map_map]
   exact Wk.refl _
  ·intro d hd
   simp [Z5] at hd
 rcases hrow.2 with ⟨rfl,hz⟩ | ⟨q,cap,cur,rfl,hq,hqb,hn,hcap,hcs,htk⟩
 ·have hes:es=[]:=by simpa using hz
  subst hes;exact ⟨_,s,I,hpost I,rel_below hrel hbel (Imm.le_refl I) (fun b o ho=>by rw [hbel.block b (hrel.imm_lt ho)];exact hrel.imm b o ho) hrel.free,.sl none 0 0 1 [] (fun _ _=>undef) rfl (Nat.le_refl _) (by decide) (by simp) (by simp) (by simp) (by simp),
   ⟨hbel.os,hbel.tape,hbel.output,hbel.size,fun b hb _=>hbel.block b hb,Imm.le_refl I,fun b hb=>.inr hb,fun b h k=>absurd h k⟩⟩
 ·have hnone:I q=none:=by
   cases hI:I q with
   | none=>rfl
   | some o=>have:=hrel.imm_lt hI;omega
  have hle:I.le (fun b=>if b=q then some (.cells cur 3 (0,0)) else I b):=by
   intro b o ho
   show (if b=q then _ else _)=_
   rw [if_neg (by intro e;rw [e,hnone] at ho;cases ho)]
   exact ho
  refine ⟨_,s,(fun b=>if b=q then some (.cells cur 3 (0,0)) else I b),hpost I,rel_below hrel hbel hle ?_ ?_,?_,?_⟩
  ·intro b o ho
   split at ho
   ·rename_i e;subst e;rw [<- ho];exact hqb
   ·rw [hbel.block b (hrel.imm_lt ho)];exact hrel.imm b o ho
  ·intro b hb
   have:=key_lt hrel hb
   show (if b=q then _ else _)=_
   rw [if_neg (by omega)]
   exact hrel.free b hb
  ·have hcell:∀ (i:Nat) (k:Int),(es.map (·.1))[i]? = some k->cur[i]? = some (.int .i64 k):=by
    intro i k hk;have h1:(cur.toList.take ((es.map (·.1)).length*1))[i]? = some (.int .i64 k):=by
     rw [htk,List.getElem?_map,hk];rfl
    rw [List.getElem?_take] at h1
    split at h1
    ·simpa using h1
    ·simp at h1
   refine .sl _ _ _ 1 _ (fun i _=>.int .i64 ((es.map (·.1)).getD i 0)) (by simp) hn ?_ ?_ (fun _=>⟨_,rfl,rfl⟩) ?_ ?_
   ·have:big=big:=rfl
    simp only [List.length_map];unfold big;omega
   ·intro i x hx
    rw [List.getElem?_map] at hx;obtain ⟨k,_,rfl⟩:=Option.map_eq_some_iff.1 hx
    rfl
   ·intro i x j u ad hx hu had
    injection had with had;subst had
    rw [List.getElem?_map] at hx;obtain ⟨k,hk,rfl⟩:=Option.map_eq_some_iff.1 hx;have hj:j=0:=by
     cases j with
     | zero=>rfl
     | succ j=>simp [cellsOf] at hu
    subst hj;have:=hcell i k hk;simp only [Imm.cell,Option.isSome_none,Bool.false_eq_true,if_false,if_true,Nat.zero_add,Nat.mul_one,Nat.add_zero,this];rw [List.getD_eq_getElem?_getD,hk];rfl
   ·intro i x j u hx hu
    rw [List.getElem?_map] at hx;obtain ⟨k,hk,rfl⟩:=Option.map_eq_some_iff.1 hx;have hj:j=0:=by
     cases j with
     | zero=>rfl
     | succ j=>simp [cellsOf] at hu
    subst hj;have hu:AV.v (.int .i64 k)=u:=by simpa [cellsOf] using hu
    subst hu;rw [List.getD_eq_getElem?_getD,hk];exact .v _
  ·refine ⟨hbel.os,hbel.tape,hbel.output,hbel.size,fun b hb _=>hbel.block b hb,hle,fun b hb=>.inr hb,fun b h1 h2=>?_⟩
   by_cases e:b=q
   ·subst e;exact .inl hq
   ·exfalso
    exact h2 (by show (if b=q then _ else _)=none;rw [if_neg e];exact h1)
end Go.Mac
