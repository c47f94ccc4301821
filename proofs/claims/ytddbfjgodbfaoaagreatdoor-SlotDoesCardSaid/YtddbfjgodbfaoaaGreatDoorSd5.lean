/-
 SlotDoes holds for every input: each call is answered, and both blocks are, as the reference says; the condition is the card's own.
-/
import Derived.Test.YtddbfjgodbfaoaaGreatDoorSd1
import Derived.Test.YtddbfjgodbfaoaaGreatDoorSd2
import Derived.Test.YtddbfjgodbfaoaaGreatDoorSd3
import Derived.Test.YtddbfjgodbfaoaaGreatDoorProg
import Derived.KernelRfl
import Derived.Shelf.SlIterI.Nil
import Derived.Shelf.SortM.Plain
import Derived.Shelf.SortM.SortNone
import Derived.RowKit
import Derived.Stop.Asserts
set_option linter.unusedVariables false
set_option linter.unusedSimpArgs false
namespace Go.Mac
open Go Go.Eng Go.Proofs
def kinc(es:List (Int × LV))(n:Int):List (Int × LV):=
 match X4 es n with
 | some (.int k c)=>kput es n (.int .i64 (c+1))
 | _=>kput es n (.int .i64 1)
def pendN:List LV->List (Int × LV)->List (Int × LV)
 | [],m=>m
 | .agg [.int _ at_,.nils]::l,m=>pendN l m
 | .agg [.int _ at_,b]::l,m=>pendN l (kinc m at_)
 | _::l,m=>pendN l m
def isU8:LV->Bool
 | .int .u8 _=>true
 | _=>false
def okW:LV->Bool
 | .agg [.int .i64 _,.nils]=>true
 | .agg [.int .i64 _,.isl 1 (x::xs)]=>(x::xs).all isU8
 | _=>false
def xNeeds:List LV->St->Option (LV × St)
 | [.ptr b 0],st=>match st.look b with
  | some (.box e [.int .i64 r,.omap .i64 ks vs,.own el n ps]) =>
   if e=97/\el=116/\n=2/\ps.all okW=true/\ps.length<=1048576 then
    some (.map st.next,st.add (.map .i64 (pendN ps (((ks.zip vs).map (fun x=>x.1)).foldl kinc []))))
   else none
  | _=>none
 | _,_=>none
def xMclone:List LV->St->Option (LV × St)
 | [.ifc t (.map b)],st=>match st.look b with
  | some (.map k es)=>some (.ifc t (.map st.next),st.add (.map k es))
  | _=>none
 | _,_=>none
def isErr:LV->Bool
 | .ifc 40 (.int .i64 _)=>true
 | .ifc 155 (.agg [.str _,.int .i64 _,x])=>isErr x
 | _=>false
def isIn(c:Int):LV->Bool
 | .ifc 40 (.int .i64 n)=>n==c
 | .ifc 155 (.agg [.str _,.int .i64 _,x])=>isIn c x
 | _=>false
def xIs:List LV->St->Option (LV × St)
 | [e,.ifc 40 (.int .i64 c)],st=>match isErr e with
  | true=>some (.bool (isIn c e),st)
  | false=>match e with
   | .nili=>some (.bool false,st)
   | _=>none
 | _,_=>none
def okBs:LV->Bool
 | .isl 1 xs=>xs.all isU8
 | _=>false
def lastOf(at_:Int):List LV->Option LV
 | []=>none
 | .agg [.int _ a,b]::l=>match lastOf at_ l with
  | some x=>some x
  | none=>if a=at_ then some b else none
 | _::l=>lastOf at_ l
def pad64(x:LV):LV:=
 match x with
 | .isl k xs=>.isl 1 ((xs++List.replicate 64 (LV.int .u8 0)).take 64)
 | _=>.isl 1 (List.replicate 64 (LV.int .u8 0))
def xRead:List LV->St->Option (LV × St)
 | [.ptr b 0,.int .i64 at_],st=>match st.look b with
  | some (.box e [.int .i64 r,.omap .i64 ks vs,.own el n ps]) =>
   if e=97/\el=116/\n=2/\ps.all okW=true/\ps.length<=1048576/\vs.all okBs=true then
    if at_<0∨1073741824<at_ then some (.tup [.nils,.ifc 155 (.agg [.str [98,108,111,99,107],.int .i64 at_,.ifc 40 (.int .i64 2)])],st) else
    match lastOf at_ ps with
    | some x=>some (.tup [pad64 x,.nili],st)
    | none=>match X4 (ks.zip vs) at_ with
     | some x=>some (.tup [pad64 x,.nili],st)
     | none=>some (.tup [pad64 .nils,.nili],st)
   else none
  | _=>none
 | _,_=>none
def ascB:List Int->Bool
 | a::b::l=>decide (a<b)&&ascB (b::l)
 | _=>true
def xSorted:List LV->St->Option (LV × St)
 | [.fn g [] [.ptr p 0]],st=>match st.look p with
  | some (.box e [.map b])=>match st.look b with
   | some (.map .i64 es) =>
    if g=93/\ascB (es.map (·.1))=true/\(es.all fun x=>decide (-9223372036854775808<=x.1)&&decide (x.1<=9223372036854775807))=true/\es.length<=1000000 then
     some (.isl 1 ((es.map (·.1)).map (LV.int .i64)),st)
    else none
   | _=>none
  | _=>none
 | _,_=>none
def codeIn:LV->Option Int
 | .ifc 40 (.int .i64 n)=>some n
 | .ifc 155 (.agg [.str _,.int .i64 _,x])=>codeIn x
 | _=>none
def xAs:List LV->St->Option (LV × St)
 | [e,.ifc 112 (.ptr b 0)],st=>match st.look b with
  | some (.box 40 [.int .i64 n])=>match codeIn e with
   | some c=>some (.bool true,st.set b (.box 40 [.int .i64 c]))
   | none=>none
  | _=>none
 | _,_=>none
def extB(f:FuncId):Option (List LV->St->Option (LV × St)):=if f=90 then some xMclone else if f=64 then some xNeeds else if f=82 then some xIs else if f=47 then some xRead else if f=60 then some xSorted else if f=52 then some xAs else none
def Ck:Cfg:=⟨extB,fun f=>f==54||f==58⟩
noncomputable def via(f:FuncId)(xs:List LV)(st:St):Option (LV × St):=Z3 Tryz.prog Ck 600 f xs st
noncomputable def C0:Cfg:=⟨fun f=>if f=57 then some (via 57) else if f=59 then some (via 59) else if f=17 then some (via 17) else extB f,fun f=>f==54⟩
end Go.Mac
namespace Go.Proofs.YtddbfjgodbfaoaaGreatDoor.Ty
open Go.Eng
theorem agg_116:X2 Tryz.prog 116=some (true,2):=by kernel_rfl
theorem agg_162:X2 Tryz.prog 162=some (true,3):=by kernel_rfl
theorem agg_165:X2 Tryz.prog 165=some (false,1):=by kernel_rfl
theorem agg_27:X2 Tryz.prog 27=some (false,1):=by kernel_rfl
theorem agg_3:X2 Tryz.prog 3=some (false,1):=by kernel_rfl
theorem agg_37:X2 Tryz.prog 37=some (false,1):=by kernel_rfl
theorem agg_94:X2 Tryz.prog 94=some (false,1):=by kernel_rfl
theorem agg_95:X2 Tryz.prog 95=some (false,1):=by kernel_rfl
theorem cmp_40:cmpT Tryz.prog 40=some .i64:=by kernel_rfl
theorem elem_95:Wj Tryz.prog 95=some 116:=by kernel_rfl
theorem field_116_0:fieldT Tryz.prog 116 0=some (0,false,1):=by kernel_rfl
theorem field_116_1:fieldT Tryz.prog 116 1=some (1,false,1):=by kernel_rfl
theorem field_155_2:fieldT Tryz.prog 155 2=some (2,false,1):=by kernel_rfl
theorem field_97_1:fieldT Tryz.prog 97 1=some (1,false,1):=by kernel_rfl
theorem field_97_2:fieldT Tryz.prog 97 2=some (2,false,1):=by kernel_rfl
theorem iface_167:Yo Tryz.prog 167=some false:=by kernel_rfl
theorem iface_189:Yo Tryz.prog 189=some true:=by kernel_rfl
theorem iface_192:Yo Tryz.prog 192=some true:=by kernel_rfl
theorem iface_194:Yo Tryz.prog 194=some true:=by kernel_rfl
theorem iface_20:Yo Tryz.prog 20=some true:=by kernel_rfl
theorem iface_200:Yo Tryz.prog 200=some true:=by kernel_rfl
theorem Xj:Yo Tryz.prog 27=some true:=by kernel_rfl
theorem impl_189_155:implT Tryz.prog 189 155=some false:=by kernel_rfl
theorem impl_192_155:implT Tryz.prog 192 155=some true:=by kernel_rfl
theorem impl_192_40:implT Tryz.prog 192 40=some false:=by kernel_rfl
theorem impl_194_40:implT Tryz.prog 194 40=some false:=by kernel_rfl
theorem impl_200_155:implT Tryz.prog 200 155=some false:=by kernel_rfl
theorem impl_200_40:implT Tryz.prog 200 40=some false:=by kernel_rfl
theorem ismap_94:isMapT Tryz.prog 94=true:=by kernel_rfl
theorem isptr_167:isPtrT Tryz.prog 167=false:=by kernel_rfl
theorem issl_167:Wp Tryz.prog 167=false:=by kernel_rfl
theorem issl_37:Wp Tryz.prog 37=true:=by kernel_rfl
theorem map_133:mapT Tryz.prog 133=some (.i64,3):=by kernel_rfl
theorem map_94:mapT Tryz.prog 94=some (.i64,37):=by kernel_rfl
theorem meth_155_Unwrapm:MethT Tryz.prog 155 "Unwrap" 145:=fun v w=>by kernel_rfl
theorem meth_155_Unwrap(K:FuncId->Prop):ameth Tryz.prog 155 "Unwrap" K=K 145:=ameth_eq meth_155_Unwrapm K
theorem zero_116:Xs Tryz.prog 116=some (Go.Value.agg #[Go.Value.int Go.IntKind.i64 0,Go.Value.slice none 0 0]):=by kernel_rfl
theorem zero_162:Xs Tryz.prog 162=some (Go.Value.agg #[Go.Value.pointer none,Go.Value.pointer none,Go.Value.int Go.IntKind.u64 0]):=by kernel_rfl
theorem zero_189:Xs Tryz.prog 189=some Go.Value.nilIface:=by kernel_rfl
theorem zero_192:Xs Tryz.prog 192=some Go.Value.nilIface:=by kernel_rfl
theorem zero_194:Xs Tryz.prog 194=some Go.Value.nilIface:=by kernel_rfl
theorem zero_200:Xs Tryz.prog 200=some Go.Value.nilIface:=by kernel_rfl
theorem zero_27:Xs Tryz.prog 27=some Go.Value.nilIface:=by kernel_rfl
theorem zero_3:Xs Tryz.prog 3=some (Go.Value.int Go.IntKind.i64 0):=by kernel_rfl
theorem zero_37:Xs Tryz.prog 37=some (Go.Value.slice none 0 0):=by kernel_rfl
end Go.Proofs.YtddbfjgodbfaoaaGreatDoor.Ty
namespace Go.Proofs.YtddbfjgodbfaoaaGreatDoor.T
open Go Go.Eng Go.Proofs.YtddbfjgodbfaoaaGreatDoor.Ty
theorem unwrap(op:ByteArray)(at_:Int)(e:AV)(h1:e.one=true):Rets Tryz.prog 145 [.agg [.v (.string op),.v (.int .i64 at_),e]] e:=by
 refine Rets.of ?_
 refine Meets.body Tryz.func145 rfl rfl (by simp [Tryz.ntmps145]) ?_
 repeat' (first | refine AW.seq ?_ | ((first | refine AW.reg (by rfl) ?_ | refine AW.skip ?_ | refine AW.ret ?_ | refine AW.exit ?_);simp only [undef,Y5,aop,ev,ofValue,Zd,Zv,Yh,List.getD_cons_zero,cells_agg,List.length_cons,List.length_nil,List.all_cons,List.all_nil,one_v,Value.oneCell',Bool.and_self,true_and,Nat.reduceAdd,Nat.zero_add,abox,Zl,forall_const,Tryz.results145,h1]) | refine AW.block ?_ | with_reducible refine AW.condT rfl ?_ | with_reducible refine AW.condF rfl ?_)
 intro b
 repeat' (first | refine AW.seq ?_ | ((first | refine AW.reg (by rfl) ?_ | refine AW.skip ?_ | refine AW.ret ?_ | refine AW.exit ?_);simp only [Y5,aop,ev,Zd,Zv,APost,ares,Y9,Za,Nat.reduceEqDiff,↓reduceIte,List.getElem?_cons_zero,List.getElem?_cons_succ,Nat.zero_add,Yu,Yk,X0,Yf,Zj,field_155_2,agg_27]) | refine AW.block ?_ | with_reducible refine AW.condT rfl ?_ | with_reducible refine AW.condF rfl ?_)
end Go.Proofs.YtddbfjgodbfaoaaGreatDoor.T
namespace Go.Proofs.YtddbfjgodbfaoaaGreatDoor.T
open Go Go.Eng Go.Pl Go.Proofs.YtddbfjgodbfaoaaGreatDoor.Ty
def optA:Option (List AV)->AV
 | none=>.v (.slice none 0 0)
 | some b=>.sl 1 b
theorem optA_one(w:Option (List AV)):(optA w).one=true:=by cases w <;> rfl
def pAV(w:Int × Option (List AV)):AV:=.agg [.v (.int .i64 w.1),optA w.2]
def cnt1(ms:List (Int × Int))(w:Int × Option (List AV)):List (Int × Int):=
 match w.2 with
 | none=>ms
 | some _=>pput ms w.1 ((pget ms w.1).getD 0+1)
def cntP(ps:List (Int × Option (List AV)))(ms:List (Int × Int)):List (Int × Int):=ps.foldl cnt1 ms
theorem cntP_succ{ps:List (Int × Option (List AV))}{i:Nat}(h:i<ps.length)(ms:List (Int × Int)):cntP (ps.take (i+1)) ms=cnt1 (cntP (ps.take i) ms) ps[i]:=by
 unfold cntP;rw [List.take_succ_eq_append_getElem h,List.foldl_append];rfl
theorem pput_get{ms:List (Int × Int)}(n c k:Int):pget (pput ms n c) k=if k=n then some c else pget ms k:=by
 have hk:∀ (l:List (Int × Int)),pget l k=(l.find? (fun p=>p.1==k)).map (·.2):=fun _=>rfl
 unfold pput
 cases hg:pget ms n with
 | none =>
  have hn:=pget_none.1 hg;simp only;rw [hk,List.find?_append]
  split
  ·rename_i he;subst he
   have:ms.find? (fun p=>p.1==k)=none:=by
    have:=hg;unfold pget at this;simpa using this
   rw [this];simp
  ·rename_i he
   have:List.find? (fun p:Int × Int=>p.1==k) [(n,c)]=none:=by simp;exact fun h=>he h.symm
   rw [this,Option.or_none];rfl
 | some x =>
  obtain ⟨h1,h2,h3⟩:=pget_some hg;simp only;generalize hi:ms.findIdx (fun p=>p.1==n)=i at h2 h3
  have hbefore:∀ (l:List (Int × Int)) (i:Nat),l.findIdx (fun p=>p.1==n)=i->(h:i<l.length)->l[i]? = some (n,x)->((l.set i (n,c)).find? (fun p=>p.1==k)).map (·.2)=if k=n then some c else (l.find? (fun p=>p.1==k)).map (·.2):=by
   intro l
   induction l with
   | nil=>intro i _ h;simp at h
   | cons y l ih =>
    intro i hi h hy;rw [List.findIdx_cons] at hi
    cases hyn:(y.1==n) with
    | true =>
     rw [hyn] at hi;simp at hi;subst hi;have hy':y=(n,x):=by simpa using hy
     subst hy';simp only [List.set_cons_zero,List.find?_cons]
     by_cases hkn:k=n
     ·subst hkn;simp
     ·have:(n==k)=false:=by simp;exact fun h=>hkn h.symm
      simp [this,hkn]
    | false =>
     rw [hyn] at hi;simp at hi
     cases i with
     | zero=>omega
     | succ i =>
      have:=ih i (by omega) (by simpa using h) (by simpa using hy)
      simp only [List.set_cons_succ,List.find?_cons]
      by_cases hyk:(y.1==k)=true
      ·simp only [hyk]
       have hne:k≠n:=fun h=>by subst h;rw [hyk] at hyn;simp at hyn
       simp [hne]
      ·have hyk:(y.1==k)=false:=by simpa using hyk
       simp only [hyk];exact this
  exact hbefore ms i hi h2 h3
theorem cntP_nodup:∀ (ps:List (Int × Option (List AV))) {ms:List (Int × Int)},(ms.map (·.1)).Nodup->((cntP ps ms).map (·.1)).Nodup
 | [],ms,h=>h
 | p::ps,ms,h=>by
  unfold cntP;rw [List.foldl_cons];refine cntP_nodup ps ?_
  unfold cnt1
  split
  ·exact h
  ·exact pput_nodup h _ _
theorem cnt1_le{ms:List (Int × Int)}{b:Int}(h:∀ n c,pget ms n=some c->0<c/\c<=b)(hb:0<=b)(w:Int × Option (List AV)):∀ n c,pget (cnt1 ms w) n=some c->0<c/\c<=b+1:=by
 intro n c hc;unfold cnt1 at hc
 split at hc
 ·have:=h n c hc;omega
 ·rw [pput_get] at hc
  split at hc
  ·injection hc with hc
   cases hg:pget ms w.1 with
   | none=>rw [hg] at hc;simp at hc;omega
   | some x=>rw [hg] at hc;simp at hc;have:=h _ _ hg;omega
  ·have:=h n c hc;omega
theorem needs_av(rm:Int)(es:List (Int × AV))(hnd:(es.map (·.1)).Nodup)(ps:List (Int × Option (List AV)))(hne:∀ p∈ps,∀ l,p.2=some l->l≠[])(hlen:ps.length<=1048576):
  Meets Tryz.prog 64 [.rp (.agg [.v (.int .i64 rm),.mp .i64 es,.sl 2 (ps.map pAV)])] [] (fun r t=>∃ q ms1 t',r=.v (.map (some q))/\t'=[(q,.imap .i64 (imap (cntP ps ms1)))]/\t'.Sublist t/\(ms1.map (·.1)).Nodup/\∀ n,pget ms1 n=if n∈es.map (·.1) then some 1 else none):=by
 obtain ⟨K',hK'⟩:∃ K':AV->Hp->Prop,K'=(fun r t=>∃ q ms1 t',r=.v (.map (some q))/\t'=[(q,.imap .i64 (imap (cntP ps ms1)))]/\t'.Sublist t/\(ms1.map (·.1)).Nodup/\∀ n,pget ms1 n=if n∈es.map (·.1) then some 1 else none):=⟨_,rfl⟩
 rw [<- hK'];refine Meets.body Tryz.func64 rfl rfl (by simp [Tryz.ntmps64]) ?_
 repeat' (first | refine AW.seq ?_ | ((first | refine AW.reg (by rfl) ?_ | refine AW.skip ?_ | refine AW.ret ?_ | refine AW.exit ?_);simp only [Y5,aop,ev,ofValue,Zd,Zv,Za,↓reduceIte,amakeMap,V4,Option.map_none,Zl,forall_const,map_133,Tryz.results64]) | refine AW.block ?_ | with_reducible refine AW.condT rfl ?_ | with_reducible refine AW.condF rfl ?_)
 intro m
 repeat' (first | refine AW.seq ?_ | ((first | refine AW.reg (by rfl) ?_ | refine AW.skip ?_ | refine AW.ret ?_ | refine AW.exit ?_);simp only [undef,Y5,aop,ev,Zd,Zv,Za,Yh,↓reduceIte,List.getD_cons_zero,List.getElem?_cons_zero,List.getElem?_cons_succ,true_and,and_true,Yu,Yk,X0,arange,ne_eq,Yf,rpart,Zl,Zu,reduceCtorEq,field_97_1,agg_94,ismap_94,rpart]) | refine AW.block ?_ | with_reducible refine AW.condT rfl ?_ | with_reducible refine AW.condF rfl ?_)
 refine ⟨rfl,fun it him=>?_⟩
 refine AW.block ?_
 obtain ⟨H,hH⟩:∃ H:Nat->Env->Hp->Prop,H=fun mm e st=>∃ (done rest:List (Int × AV)) (cur:Option (Int × AV)) (ms:List (Int × Int)),st=[(it,.iter .i64 rest cur),(m,.imap .i64 (imap ms))] /\
   es.Perm (done++rest)/\(ms.map (·.1)).Nodup/\(∀ n,pget ms n=if n∈done.map (·.1) then some 1 else none)/\mm=rest.length/\e 0=.rp (.agg [.v (.int .i64 rm),.mp .i64 es,.sl 2 (ps.map pAV)])/\e 3=.v (.map (some m))/\e 12=.v (.pointer (some ⟨it,0,none⟩)):=⟨_,rfl⟩
 refine (AW.loop H es.length (by rw [hH];exact ⟨[],es,none,[],rfl,by simp,by simp,by simp [pget],rfl,rfl,rfl,rfl⟩) ?_)
 intro mm e st hst;rw [hH] at hst;obtain ⟨done,rest,cur,ms,rfl,hperm,hmn,hmk,rfl,e0,e3,e12⟩:=hst
 repeat' (first | refine AW.seq ?_ | ((first | refine AW.reg (by rfl) ?_ | refine AW.skip ?_ | refine AW.ret ?_ | refine AW.exit ?_);simp only [Y5,aop,ev,Zd,Zv,Za,↓reduceIte,List.getElem?_cons_zero,true_and,and_true,anext,ne_eq,not_false_eq_true,Wb,Zj,Zl,Zu,Yp,Y7,him,e12]) | refine AW.block ?_ | with_reducible refine AW.condT rfl ?_ | with_reducible refine AW.condF rfl ?_)
 refine ⟨fun hrest=>?_,fun i pr hpri=>?_⟩
 ·subst hrest
  rw [List.append_nil] at hperm;refine AW.seq (AW.condF rfl ?_)
  repeat' (first | refine AW.seq ?_ | ((first | refine AW.reg (by rfl) ?_ | refine AW.skip ?_ | refine AW.ret ?_ | refine AW.exit ?_);simp only [Y5,aop,Yv,ev,ofValue,Zd,Zv,Xm,Za,↓reduceIte,List.getElem?_cons_zero,List.getElem?_cons_succ,true_and,Yu,Yk,X0,Yf,rpart,alen,reduceCtorEq,List.length_map,field_97_2,agg_95,elem_95,e0,rpart]) | refine AW.block ?_ | with_reducible refine AW.condT rfl ?_ | with_reducible refine AW.condF rfl ?_)
  refine ⟨rfl,?_⟩
  repeat' (first | refine AW.seq ?_ | refine AW.block ?_ | with_reducible refine AW.condT rfl ?_ | with_reducible refine AW.condF rfl ?_)
  have hmk1:∀ n,pget ms n=if n∈es.map (·.1) then some 1 else none:=fun n=>by rw [hmk n];simp only [(hperm.map (·.1)).mem_iff]
  have hle:∀ i,i<=ps.length->∀ n c,pget (cntP (ps.take i) ms) n=some c->0<c/\c<=1+i:=by
   intro i
   induction i with
   | zero =>
    intro _ n c hc;have:cntP (ps.take 0) ms=ms:=rfl;rw [this,hmk1] at hc
    split at hc <;> simp at hc
    omega
   | succ i ih =>
    intro hi n c hc;rw [cntP_succ (by omega)] at hc
    have:=cnt1_le (ih (by omega)) (by omega) _ n c hc
    push_cast;omega
  have hnd2:∀ i,((cntP (ps.take i) ms).map (·.1)).Nodup:=fun i=>cntP_nodup _ hmn
  obtain ⟨H2,hH2⟩:∃ H2:Nat->Env->Hp->Prop,H2=fun mm e st=>∃ (i:Nat),st=[(m,.imap .i64 (imap (cntP (ps.take i) ms)))] /\
    i<=ps.length/\mm=ps.length-i/\e 3=.v (.map (some m))/\e 24=.sl 2 (ps.map pAV)/\e 25=.v (.int .i64 ps.length)/\e 26=.v (.int .i64 i):=⟨_,rfl⟩
  refine AW.drop (t:=[(m,.imap .i64 (imap ms))]) ?_ (fun p hp=>List.mem_cons_of_mem _ hp) (fun hn=>(List.nodup_cons.1 hn).2)
  refine (AW.loop H2 ps.length ?_ ?_)
  ·rw [hH2]
   refine ⟨0,rfl,by omega,rfl,?_,rfl,rfl,rfl⟩
   simp [Za,e3]
  clear hH e0 e3 e12 hperm hmk
  intro mm e st hst;rw [hH2] at hst;obtain ⟨i,rfl,hi,rfl,e3,e24,e25,e26⟩:=hst
  repeat' (first | refine AW.seq ?_ | ((first | refine AW.reg (by rfl) ?_ | refine AW.skip ?_ | refine AW.ret ?_ | refine AW.exit ?_);simp only [Y5,aop,ev,Zd,Zv,true_and,X5,aint,e25,e26]) | refine AW.block ?_ | with_reducible refine AW.condT rfl ?_ | with_reducible refine AW.condF rfl ?_)
  refine AW.cond rfl (fun h=>?_) (fun h=>?_)
  ·have hlt:i<ps.length:=by simpa using h
   clear h
   have hat:(ps.map pAV).getD i default=.agg [.v (.int .i64 ps[i].1),optA ps[i].2]:=by rw [List.getD_eq_getElem?_getD,List.getElem?_map,List.getElem?_eq_getElem hlt];rfl
   have hw1:IntKind.i64.wrap (i+1)=i+1:=wrap_i64 (by omega) (by omega)
   have hsucc:=cntP_succ hlt ms;have hl:=hle i (by omega)
   have hn:=hnd2 i;have hlk:=mget_imap (cntP (ps.take i) ms) ps[i].1;generalize cntP (ps.take i) ms=mi at *
   repeat' (first | refine AW.seq ?_ | ((first | refine AW.reg (by rfl) ?_ | refine AW.skip ?_ | refine AW.ret ?_ | refine AW.exit ?_);simp only [undef,Y5,aop,ev,Zd,put_none,Zv,Za,Nat.reduceEqDiff,↓reduceIte,Value.cells,cells_agg,splice,List.map_cons,List.map_nil,List.length_cons,List.length_nil,List.take_zero,List.drop_succ_cons,List.drop_nil,List.nil_append,List.append_nil,List.all_cons,List.all_nil,one_v,Value.oneCell',Bool.and_self,true_and,and_true,Nat.reduceAdd,Nat.zero_add,Nat.le_refl,Yu,Yk,X0,astore,aalloc,ne_eq,aindexAddr,List.size_toArray,Option.map_some,Zj,Zl,Zu,Yp,Y7,List.length_map,Int.toNat_natCast,Int.natCast_nonneg,elem_95,agg_116,zero_116,e24,e26,hat,optA_one]) | refine AW.block ?_ | with_reducible refine AW.condT rfl ?_ | with_reducible refine AW.condF rfl ?_)
   refine ⟨by omega,fun b hb=>?_⟩
   have fin:∀ (e:Env) (x y:AV),e 3=.v (.map (some m))->e 24=.sl 2 (ps.map pAV)->e 25=.v (.int .i64 ps.length)->e 26=.v (.int .i64 (i+1)) ->
     LEnd H2 (ps.length-i) e [(b,.cells 116 [x,y] 2),(m,.imap .i64 (imap (cntP (ps.take (i+1)) ms)))]:=by
    intro e x y g1 g2 g3 g4;rw [hH2];refine ⟨ps.length-(i+1),_,by omega,fun p hp=>List.mem_cons_of_mem _ hp,?_,i+1,rfl,hlt,rfl,g1,g2,g3,?_⟩
    ·simp [Hp.keys]
    ·rw [g4];simp
   cases hwi:ps[i].2 with
   | none =>
    rw [hwi] at hat;have hcn:cntP (ps.take (i+1)) ms=mi:=by rw [hsucc];unfold cnt1;rw [hwi]
    rw [hcn] at fin
    try simp only [↓reduceIte,optA,Ne.symm hb]
    repeat' (first | refine AW.seq ?_ | ((first | refine AW.reg (by rfl) ?_ | refine AW.skip ?_ | refine AW.ret ?_ | refine AW.exit ?_);simp only [Y5,aop,ev,ofValue,Zd,Zv,Xm,Za,Nat.reduceEqDiff,↓reduceIte,List.getElem?_cons_zero,List.getElem?_cons_succ,true_and,Nat.zero_add,Yu,Yk,X0,X5,aint,anils,Yf,Zj,field_116_1,agg_37,issl_37,e26]) | refine AW.block ?_ | with_reducible refine AW.condT rfl ?_ | with_reducible refine AW.condF rfl ?_)
    exact fin _ _ _ (by simp [Za,e3]) (by simp [Za,e24]) (by simp [Za,e25]) (by simp [Za,hw1])
   | some l =>
    rw [hwi] at hat;have hl0:=hne _ (List.getElem_mem hlt) l hwi;obtain ⟨y,ys,rfl⟩:∃ y ys,l=y::ys:=by cases l with
     | nil=>exact absurd rfl hl0
     | cons y ys=>exact ⟨y,ys,rfl⟩
    have hcn:cntP (ps.take (i+1)) ms=pput mi ps[i].1 ((pget mi ps[i].1).getD 0+1):=by rw [hsucc];unfold cnt1;rw [hwi]
    rw [hcn] at fin
    cases hg:pget mi ps[i].1 with
    | none =>
     rw [hg] at hlk fin;have hlk:Eng.mget (imap mi) ps[i].1=none:=hlk;have hput:mput (imap mi) ps[i].1 (.v (.int .i64 1))=imap (pput mi ps[i].1 1):=mput_imap _ _ _;have hw2:IntKind.i64.wrap 1=1:=by decide
     try simp only [↓reduceIte,optA,Ne.symm hb]
     repeat' (first | refine AW.seq ?_ | ((first | refine AW.reg (by rfl) ?_ | refine AW.skip ?_ | refine AW.ret ?_ | refine AW.exit ?_);simp only [undef,Y5,aop,ev,ofValue,Zd,put_none,Zv,Xm,Za,Nat.reduceEqDiff,↓reduceIte,List.getElem?_cons_zero,List.getElem?_cons_succ,true_and,Nat.zero_add,Nat.add_zero,Yu,Yk,X0,X5,aint,anils,Yf,alookup,Ws,Zj,Zl,Yp,Y7,Bool.false_eq_true,Bool.not_false,map_133,zero_3,field_116_1,agg_37,issl_37,field_116_0,agg_3,e3,e26,hb,hlk,hput,hw2,Int.zero_add]) | refine AW.block ?_ | with_reducible refine AW.condT rfl ?_ | with_reducible refine AW.condF rfl ?_)
     exact fin _ _ _ (by simp [Za,e3]) (by simp [Za,e24]) (by simp [Za,e25]) (by simp [Za,hw1])
    | some c0 =>
     rw [hg] at hlk fin;have hlk:Eng.mget (imap mi) ps[i].1=some (.v (.int .i64 c0)):=hlk;have hc0:=hl _ _ hg;have hput:mput (imap mi) ps[i].1 (.v (.int .i64 (c0+1)))=imap (pput mi ps[i].1 (c0+1)):=mput_imap _ _ _;have hw2:IntKind.i64.wrap (c0+1)=c0+1:=wrap_i64 (by omega) (by omega)
     try simp only [↓reduceIte,optA,Ne.symm hb]
     repeat' (first | refine AW.seq ?_ | ((first | refine AW.reg (by rfl) ?_ | refine AW.skip ?_ | refine AW.ret ?_ | refine AW.exit ?_);simp only [undef,Y5,aop,ev,ofValue,Zd,put_none,Zv,Xm,Za,Nat.reduceEqDiff,↓reduceIte,List.getElem?_cons_zero,List.getElem?_cons_succ,true_and,Nat.zero_add,Nat.add_zero,Yu,Yk,X0,X5,aint,anils,Yf,alookup,Ws,Zj,Zl,Yp,Y7,Bool.false_eq_true,Bool.not_false,map_133,zero_3,field_116_1,agg_37,issl_37,field_116_0,agg_3,e3,e26,hb,hlk,hput,hw2]) | refine AW.block ?_ | with_reducible refine AW.condT rfl ?_ | with_reducible refine AW.condF rfl ?_)
     exact fin _ _ _ (by simp [Za,e3]) (by simp [Za,e24]) (by simp [Za,e25]) (by simp [Za,hw1])
  ·have hge:i=ps.length:=by
    have:¬ i<ps.length:=by simpa using h
    omega
   subst hge
   repeat' (first | refine AW.seq ?_ | ((first | refine AW.reg (by rfl) ?_ | refine AW.skip ?_ | refine AW.ret ?_ | refine AW.exit ?_);simp only [Y5,aop,ev,Zd,Zv,Xm,APost,ares,Y9,Za,Nat.reduceEqDiff,↓reduceIte,e3]) | refine AW.block ?_ | with_reducible refine AW.condT rfl ?_ | with_reducible refine AW.condF rfl ?_)
   rw [hK'];refine ⟨m,ms,_,rfl,rfl,?_,hmn,hmk1⟩;rw [List.take_length];exact List.Sublist.refl _
 ·have hri:i<rest.length:=(List.getElem?_eq_some_iff.1 hpri).1
  have hpr:pr=rest[i]:=by
   rw [List.getElem?_eq_getElem hri] at hpri;injection hpri with hpri;exact hpri.symm
  subst hpr;refine AW.seq (AW.cond rfl (fun _=>?_) (fun h=>by simp at h))
  refine AW.skip ?_
  simp only [Zv];have hperm2:es.Perm (rest[i]::(done++rest.eraseIdx i)):=by
   refine hperm.trans ?_
   have:=perm_eraseIdx hri;exact (List.Perm.append_left done this.symm).trans List.perm_middle
  have hnew:rest[i].1∉done.map (·.1):=by
   have:=(hperm2.map (·.1)).nodup_iff.1 hnd;simp only [List.map_cons,List.map_append,List.nodup_cons,List.mem_append,not_or] at this;exact this.1.1
  have hget:pget ms rest[i].1=none:=by rw [hmk,if_neg hnew]
  have hlook:Eng.mget (imap ms) rest[i].1=none:=by rw [mget_imap,hget];rfl
  have hput:mput (imap ms) rest[i].1 (.v (.int .i64 1))=imap (pput ms rest[i].1 1):=mput_imap _ _ _;have hw:IntKind.i64.wrap 1=1:=by decide
  repeat' (first | refine AW.seq ?_ | ((first | refine AW.reg (by rfl) ?_ | refine AW.skip ?_ | refine AW.ret ?_ | refine AW.exit ?_);simp only [undef,Y5,aop,ev,ofValue,Zd,put_none,Zv,Xm,Za,Nat.reduceEqDiff,↓reduceIte,List.getElem?_cons_zero,true_and,X5,aint,aentry,Wb,alookup,Ws,Zj,Zl,Yp,Y7,Bool.false_eq_true,map_133,zero_3,him,e3,e12,hlook,hput,Int.zero_add,hw]) | refine AW.block ?_ | with_reducible refine AW.condT rfl ?_ | with_reducible refine AW.condF rfl ?_)
  rw [hH];refine ⟨_,_,?_,fun p hp=>hp,?_,rest[i]::done,rest.eraseIdx i,_,pput ms rest[i].1 1,rfl,hperm2,pput_nodup hmn _ _,fun k=>?_,rfl,e0,e3,e12⟩
  ·rw [List.length_eraseIdx_of_lt hri];omega
  ·simp only [hp_nodup_cons,Zu,hp_nodup_nil,Zl,and_true];exact him
  ·rw [pput_get,hmk k]
   simp only [List.map_cons,List.mem_cons]
   by_cases hk:k=rest[i].1
   ·rw [if_pos hk,if_pos (.inl hk)]
   ·rw [if_neg hk];simp only [hk,false_or]
end Go.Proofs.YtddbfjgodbfaoaaGreatDoor.T
namespace Go.Mac
open Go Go.Eng Go.Pl Go.Proofs Go.Proofs.YtddbfjgodbfaoaaGreatDoor.T
def toP(R:Inst):LV->Int × Option (List AV)
 | .agg [.int _ a,.isl _ xs]=>(a,some (Z4 R false xs))
 | .agg [.int _ a,_]=>(a,none)
 | _=>(0,none)
theorem okW_inst{R:Inst}{x:LV}(h:okW x=true):Z0 R false x=pAV (toP R x)/\(∀ l,(toP R x).2=some l->l≠[]):=by
 unfold okW at h
 split at h
 ·exact ⟨by simp [Z0,Z4,toP,pAV,optA],by simp [toP]⟩
 ·exact ⟨by simp [Z0,Z4,toP,pAV,optA],by simp [toP,Z4]⟩
 ·simp at h
theorem inst_int{R:Inst}{l:Bool}{x:LV}{k:IntKind}{c:Int}(h:Z0 R l x=.v (.int k c)):x=.int k c:=by
 cases x
 case int=>cases l <;> simpa [Z0] using h
 case sl k b i n c =>
  cases l
  ·simp [Z0] at h
  ·simp only [Z0,Y8] at h
   split at h <;> simp at h
 case ifc t x =>
  rw [show Z0 R l (.ifc t x)=mkIfc t (Z0 R l x) by cases l <;> simp only [Z0]] at h
  rcases Ys t (Z0 R l x) with ⟨z,e1,e⟩ | e <;> rw [e] at h <;> simp at h
 case fn f a c =>
  cases l <;> simp only [Z0] at h <;> (unfold Wh at h;split at h <;> simp at h)
 all_goals cases l <;> simp [Z0] at h
theorem MapOk.put{R:Inst}{L:List (Int × LV)}{es:List (Int × AV)}(h:MapOk R L es)(n:Int)(x:LV):MapOk R (kput L n x) (mput es n (Z0 R false x)):=by
 have hL:(L.map (·.1)).Nodup:=h.keys.nodup_iff.1 h.nd;have h1:=mput_perm h.nd n (Z0 R false x);have h2:=kput_perm hL n x;have h3:(Wi R (kput L n x)).Perm ((n,Z0 R false x)::kfil es n):=by
  have:=h2.map (fun p:Int × LV=>(p.1,Z0 R false p.2))
  refine (show (Wi R (kput L n x)).Perm _ from this).trans ?_
  rw [List.map_cons];refine List.Perm.cons _ ?_
  have e:List.map (fun p:Int × LV=>(p.1,Z0 R false p.2)) (kfil L n)=kfil (Wi R L) n:=(kfil_mapAV R L n).symm
  rw [e];exact (h.perm.filter _).symm
 refine ⟨h1.trans h3.symm,?_⟩;have:=h1.map (·.1);refine this.nodup_iff.2 ?_
 rw [List.map_cons];exact List.nodup_cons.2 ⟨kfil_not es n,h.nd.sublist ((kfil_sub es n).map _)⟩
theorem kinc_ok{R:Inst}{L:List (Int × LV)}{ms:List (Int × Int)}(h:MapOk R L (imap ms))(n:Int):MapOk R (kinc L n) (imap (pput ms n ((pget ms n).getD 0+1))):=by
 have hg:=h.get n;rw [mget_imap] at hg;unfold kinc
 cases hp:pget ms n with
 | none =>
  rw [hp] at hg;have hk:X4 L n=none:=by
   cases hk:X4 L n with
   | none=>rfl
   | some x=>rw [hk] at hg;simp at hg
  rw [hk];have:=h.put n (.int .i64 1);simp only [Z0,mput_imap] at this;simpa using this
 | some c =>
  rw [hp] at hg;obtain ⟨x,hk,hx⟩:∃ x,X4 L n=some x/\Z0 R false x=.v (.int .i64 c):=by
   cases hk:X4 L n with
   | none=>rw [hk] at hg;simp at hg
   | some x=>rw [hk] at hg;exact ⟨x,rfl,by simpa using hg.symm⟩
  have:=inst_int hx;subst this;rw [hk];have:=h.put n (.int .i64 (c+1));simp only [Z0,mput_imap] at this;simpa using this
theorem pendN_ok{R:Inst}:∀ (ps:List LV) {L:List (Int × LV)} {ms:List (Int × Int)},ps.all okW=true->MapOk R L (imap ms)->MapOk R (pendN ps L) (imap (cntP (ps.map (toP R)) ms))
 | [],L,ms,_,h=>h
 | x::ps,L,ms,ho,h=>by
  simp only [List.all_cons,Bool.and_eq_true] at ho;have hx:=ho.1;unfold okW at hx
  split at hx
  ·exact pendN_ok ps ho.2 h
  ·exact pendN_ok ps ho.2 (kinc_ok h _)
  ·simp at hx
theorem kincs_ok{R:Inst}:∀ (keys:List Int) {L:List (Int × LV)} {ms:List (Int × Int)},keys.Nodup->(∀ k∈keys,k∉ms.map (·.1))->MapOk R L (imap ms)->MapOk R (keys.foldl kinc L) (imap (ms++keys.map fun k=>(k,1)))
 | [],L,ms,_,_,h=>by simpa using h
 | k::keys,L,ms,hn,hd,h=>by
  have hk:pget ms k=none:=pget_none.2 (hd k List.mem_cons_self);have h1:=kinc_ok h k;rw [hk] at h1;have e:pput ms k ((none:Option Int).getD 0+1)=ms++[(k,1)]:=by unfold pput;rw [hk];rfl
  rw [e] at h1;obtain ⟨hn1,hn2⟩:=List.nodup_cons.1 hn;have:=kincs_ok keys (L:=kinc L k) hn2 (fun j hj=>by
   simp only [List.map_append,List.map_cons,List.map_nil,List.mem_append,List.mem_singleton,not_or];exact ⟨hd j (List.mem_cons_of_mem _ hj),fun e=>hn1 (e▸hj)⟩) h1
  simpa using this
theorem pget_mem{ms:List (Int × Int)}(hn:(ms.map (·.1)).Nodup){n c:Int}(h:(n,c)∈ms):pget ms n=some c:=by
 have hi:((imap ms).map (·.1)).Nodup:=by
  have:(imap ms).map (·.1)=ms.map (·.1):=by simp [imap,gmap]
  rw [this];exact hn
 have:=mget_mem hi (n:=n) (u:=.v (.int .i64 c)) (List.mem_map.2 ⟨_,h,rfl⟩);rw [mget_imap] at this
 cases hg:pget ms n with
 | none=>rw [hg] at this;simp at this
 | some x=>rw [hg] at this;simp at this;rw [this]
theorem ones_perm{ms:List (Int × Int)}{keys:List Int}(hn:(ms.map (·.1)).Nodup)(hk:keys.Nodup)(h:∀ n,pget ms n=if n∈keys then some 1 else none):ms.Perm (keys.map fun k=>(k,1)):=by
 have hn1:ms.Nodup:=List.Pairwise.of_map (·.1) (fun a b h e=>h (by rw [e])) hn
 have hn2:(keys.map fun k=>((k,1):Int × Int)).Nodup:=by
  have:((keys.map fun k=>((k,1):Int × Int)).map (·.1)).Nodup:=by
   have e:(keys.map fun k=>((k,1):Int × Int)).map (·.1)=keys:=by
    rw [List.map_map];exact List.map_id _
   rw [e];exact hk
  exact List.Pairwise.of_map (·.1) (fun a b h e=>h (by rw [e])) this
 refine (List.perm_ext_iff_of_nodup hn1 hn2).2 fun p=>?_
 obtain ⟨n,c⟩:=p
 constructor
 ·intro hp
  have:=pget_mem hn hp;rw [h n] at this
  split at this
  ·rename_i hm
   injection this with this
   subst this;exact List.mem_map.2 ⟨n,hm,rfl⟩
  ·simp at this
 ·intro hp
  obtain ⟨k,hk1,e⟩:=List.mem_map.1 hp;injection e with e1 e2
  subst e1;subst e2;have:=h k;rw [if_pos hk1] at this;exact (pget_some this).1
theorem MapOk.of_perm{R:Inst}{L:List (Int × LV)}{es es':List (Int × AV)}(h:MapOk R L es)(hp:es'.Perm es):MapOk R L es':=
 ⟨hp.trans h.perm,(hp.map (·.1)).nodup_iff.2 h.nd⟩
theorem map_new{P:Program}{R:Inst}{st:St}{s:Hp}(hs:SRel P R st s)(k:IntKind){L:List (Int × LV)}{es:List (Int × AV)}(hm:MapOk R L es)(b:Nat)(hb:b∉s.keys):
  LPost P R st (.map st.next) (st.add (.map k L)) (.v (.map (some b))) ((b,.imap k es)::s):=by
 have ha:=Ww R st.next b 0 false;have hx:=ext_self R st.next b 0 false;refine ⟨R.ext st.next b 0 false,_,ha,Nat.le_succ _,by simp only [Z0,hx.1];exact Wk.refl _,by intro d hd;simp [Z8] at hd;subst hd;simp [St.add],HpWk.refl _,?_⟩
 have ho:=ObjE.map (P:=P) (R:=R.ext st.next b 0 false) (b:=st.next) k L es (mapOk_dead hm);rw [hx.1] at ho;exact hs.add _ ha _ _ ho (nodup_cons hb hs.nd) (by simp [Y4])
theorem disk_lies{P:Program}{R:Inst}{b:Nat}{e:Nat}{r:Int}{ks:List Int}{vs ps:List LV}{el n:Nat}{t1:Hp}(h:ObjE P R b (.box e [.int .i64 r,.omap .i64 ks vs,.own el n ps]) t1):
  ∃ q es u3 s3,t1=(R.ρ b,.cells e [.v (.int .i64 r),.v (.map (some q)),u3] 3)::(q,.imap .i64 es)::s3/\MapOk R (ks.zip vs) es /\
   ((ps=[]/\u3=.v (.slice none 0 0)/\s3=[])∨∃ q2 cap,u3=.v (.slice (some ⟨q2,0,none⟩) ps.length cap)/\s3=[(q2,.cells el ((Z4 R false ps).flatMap cellsOf) (cap*n))]/\RowOk (Ya P el) n cap ps):=by
 cases h with
 | box _ _ us t h =>
  cases h with
  | cons h1 h =>
   cases h with
   | cons h2 h =>
    cases h with
    | cons h3 h =>
     cases h with
     | nil =>
      cases h1 with
      | other _ _ =>
       cases h2 with
       | omap _ _ _ q es hm =>
        cases h3 with
        | ownNil _ _=>exact ⟨q,es,_,[],rfl,hm,.inl ⟨rfl,rfl,rfl⟩⟩
        | own _ _ _ q2 cap _ ho=>exact ⟨q,es,_,_,rfl,hm,.inr ⟨q2,cap,rfl,rfl,ho⟩⟩
        | other _ hp=>simp [LV.plain] at hp
       | other _ hp=>simp [LV.plain] at hp
theorem flat_cells_len{R:Inst}{l:Bool}{n:Nat}:∀ {ps:List LV},(∀ x∈ps,(Z7 x).length=n)->((Z4 R l ps).flatMap cellsOf).length=ps.length*n
 | [],_=>by simp [Z4]
 | x::ps,h=>by
  simp only [Z4,List.flatMap_cons,List.length_append,Y0];rw [flat_cells_len (fun y hy=>h y (List.mem_cons_of_mem _ hy)),Zy,List.length_map,h x List.mem_cons_self,List.length_cons,Nat.add_mul]
  omega
theorem disk_bor{P:Program}{R:Inst}{b e:Nat}{r:Int}{es:List (Int × AV)}{ps:List LV}{el q:Nat}{u3:AV}{s3:Hp}(h2:ps.all okW=true)(h:(ps=[]/\u3=.v (.slice none 0 0)/\s3=[])∨∃ q2 cap,u3=.v (.slice (some ⟨q2,0,none⟩) ps.length cap)/\s3=[(q2,.cells el ((Z4 R false ps).flatMap cellsOf) (cap*2))]/\RowOk (Ya P el) 2 cap ps):
  ∀ (j:Nat) (u v:AV),[.v (.int .i64 r),.v (.map (some q)),u3][j]? = some u->[.v (.int .i64 r),.mp .i64 es,.sl 2 ((ps.map (toP R)).map pAV)][j]? = some v ->
   Bor ((R.ρ b,.cells e [.v (.int .i64 r),.v (.map (some q)),u3] 3)::(q,.imap .i64 es)::s3) u v:=by
 have hps:(ps.map (toP R)).map pAV=Z4 R false ps:=by
  rw [Zy,List.map_map];apply List.map_congr_left;intro x hx;exact ((okW_inst (List.all_eq_true.1 h2 x hx)).1).symm
 intro j u v hu hv
 match j with
 | 0 =>
  simp at hu hv;subst hu;subst hv;exact .refl _
 | 1 =>
  simp at hu hv;subst hu;subst hv;exact .imap (by simp)
 | 2 =>
  simp only [List.getElem?_cons_succ,List.getElem?_cons_zero,Option.some.injEq] at hu hv;subst hu;subst hv;rw [hps]
  rcases h with ⟨rfl,rfl,rfl⟩ | ⟨q2,cap,rfl,rfl,ho⟩
  ·exact .empty none 0 2
  ·refine .row q2 0 ps.length cap 2 (cap*2) el ((Z4 R false ps).flatMap cellsOf) _ (by simp) (by rw [Zy,List.length_map]) ho.le ho.big ?_ ?_
   ·intro i x hx
    rw [Zy,List.getElem?_map] at hx;obtain ⟨y,hy,rfl⟩:=Option.map_eq_some_iff.1 hx;rw [Y0,Zy,List.length_map];exact ho.cells y (List.mem_of_getElem? hy)
   ·rw [List.drop_zero,List.take_of_length_le]
    rw [flat_cells_len ho.cells];exact Nat.le_refl _
 | j+3=>simp at hu
theorem lm_needs{as_:List LV}{st st':St}{v:LV}(h:xNeeds as_ st=some (v,st')):LMeets Tryz.prog 64 as_ st v st':=by
 unfold xNeeds at h
 split at h
 case h_2=>simp at h
 rename_i b
 split at h
 case h_2=>simp at h
 rename_i e r ks vs el n ps hl
 split at h
 case isFalse=>simp at h
 rename_i hc;obtain ⟨he,hel,hn,hok,hlen⟩:=hc;subst hel;subst hn;simp only [Option.some.injEq,Prod.mk.injEq] at h;obtain ⟨rfl,rfl⟩:=h
 intro R s hs hr;obtain ⟨t1,t2,hob,_,hperm,_⟩:=hs.ents.focus hl;obtain ⟨q,es,u3,s3,rfl,hm,h3⟩:=disk_lies hob;refine Meets.kn ?_
 refine Meets.use _ t2 hperm.symm ?_
 have hb:=disk_bor (b:=b) (e:=e) (r:=r) (es:=es) (q:=q) hok h3;refine Meets.borrow2 (bs:=[.rp (.agg [.v (.int .i64 r),.mp .i64 es,.sl 2 ((ps.map (toP R)).map pAV)])]) (fun I w xs hrel ha=>?_) ?_
 ·have ha':RVs I xs (.v (.pointer (some ⟨R.ρ b,0,none⟩))::[]):=by simpa [Z4,Z0] using ha
  exact rvs_box (vs:=[.v (.int .i64 r),.mp .i64 es,.sl 2 ((ps.map (toP R)).map pAV)]) List.mem_cons_self (us:=[.v (.int .i64 r),.v (.map (some q)),u3]) (by simp) hb hrel ha'
 refine (needs_av r es hm.nd (ps.map (toP R)) ?_ (by simpa using hlen)).mono ?_
 ·intro p hp l hpl
  obtain ⟨x,hx,rfl⟩:=List.mem_map.1 hp;exact (okW_inst (List.all_eq_true.1 hok x hx)).2 l hpl
 rintro rr t ⟨q',ms1,t',rfl,rfl,hsub,hnd1,hget⟩;have hkeys:(es.map (·.1)).Perm ((ks.zip vs).map (·.1)):=hm.keys;have hkn:((ks.zip vs).map (·.1)).Nodup:=hkeys.nodup_iff.1 hm.nd;have hbase:MapOk R (((ks.zip vs).map (fun x=>x.1)).foldl kinc []) (imap ms1):=by
  have h0:MapOk R [] (imap []):=⟨by simp [Wi,imap,gmap],by simp [imap,gmap]⟩
  have h1:=kincs_ok ((ks.zip vs).map (fun x=>x.1)) hkn (by simp) h0
  rw [List.nil_append] at h1;refine h1.of_perm ?_
  exact (ones_perm hnd1 hkn (fun n=>by rw [hget n];simp only [hkeys.mem_iff])).map _
 have hfin:=pendN_ok ps hok hbase;refine ⟨[(q',.imap .i64 (imap (cntP (ps.map (toP R)) ms1)))],fun p hp=>hsub.subset hp,fun _=>by simp [Hp.keys],rfl,?_,?_⟩
 ·intro p hp
  simp only [List.mem_singleton] at hp;subst hp;simp only [AObj.plain,List.all_eq_true];intro p hp;obtain ⟨x,_,rfl⟩:=List.mem_map.1 hp
  rfl
 intro hnk;have hq:q'∉s.keys:=by
  have h1:=(List.nodup_cons.1 (show (q'::Hp.keys ((R.ρ b,.cells e [.v (.int .i64 r),.v (.map (some q)),u3] 3)::(q,.imap .i64 es)::s3++t2)).Nodup from hnk)).1
  exact fun hk=>h1 ((hperm.map (·.1)).mem_iff.1 hk)
 obtain ⟨R',s',g1,g2,g3,g4,g5,g6⟩:=map_new hs .i64 hfin q' hq;exact ⟨R',s',g1,g2,g3,g4,(HpWk.perm (hperm.symm.cons _)).trans g5,g6⟩
theorem lm_mclone{as_:List LV}{st st':St}{v:LV}(h:xMclone as_ st=some (v,st')):LMeets Tryz.prog 90 as_ st v st':=by
 unfold xMclone at h
 split at h
 case h_2=>simp at h
 rename_i t b
 split at h
 case h_2=>simp at h
 rename_i k es hl;simp only [Option.some.injEq,Prod.mk.injEq] at h;obtain ⟨rfl,rfl⟩:=h
 intro R s hs hr;obtain ⟨t1,t2,hob,_,hperm,_⟩:=hs.ents.focus hl
 cases hob with
 | map _ _ es' hm =>
 refine Meets.extern Tryz.func90 (by kernel_rfl) (by kernel_rfl) (by kernel_rfl) (by kernel_rfl:_=some Extern.MapsClone.clone) ?_
 intro I w vs hsr ha;have h0:=ha.rv 0 _ rfl;have hvs:vs = #[vs.getD 0 undef]:=by
  have:=ha.len;apply Array.ext
  ·simpa [Z4] using this
  ·intro i h1 h2
   have:i=0:=by simp at h2;omega
   subst this;simp [h1]
 generalize vs.getD 0 undef=v at h0 hvs;have h1:v=.iface t (.map (some (R.ρ b))):=by
  simp only [Z4,Z0,mkIfc] at h0;exact h0.of_v
 subst h1;have hmem:(R.ρ b,AObj.imap k es')∈s:=hperm.mem_iff.2 (by simp)
 obtain ⟨c,cl,hc⟩:=hsr.obj _ _ hmem;have hgo:(getObj (R.ρ b)).run Tryz.prog w=.ok (.map c cl) w:=by simp [getObj,Sem.run,hc.block]
 obtain ⟨R',s',g1,g2,g3,g4,g5,g6⟩:=map_new hs k hm w.heap.size hsr.fresh_key;refine ⟨.iface t (.map (some w.heap.size)),w.alloc (.map c cl),.v (.iface t (.map (some w.heap.size))),(w.heap.size,.imap k es')::s,I,?_,⟨R',s',g1,g2,?_,?_,g5,g6⟩,hsr.alloc _ _ ?_,.v _,Ext.alloc I s w _ _⟩
 ·subst hvs
  change (getObj (R.ρ b) >>= _).run Tryz.prog w=_
  rw [Sem.run_bind,hgo]
  rfl
 ·have e:Z0 R' true (.ifc t (.map st.next))=.v (.iface t (.map (some (R'.ρ st.next)))):=by simp only [Z0,mkIfc]
  rw [e];have g3':Wk (.v (.map (some w.heap.size))) (.v (.map (some (R'.ρ st.next)))):=by simpa only [Z0] using g3
  have:=(g3' I _ (.v _)).of_v;injection this with this
  injection this with this
  rw [<- this];exact Wk.refl _
 ·intro b' hb'
  simp only [Z8] at hb';exact g4 b' (by simpa [Z8] using hb')
 ·exact ⟨c,cl,heap_alloc_new w _,hc.full,hc.entry,hc.apart⟩
end Go.Mac
namespace Go.Proofs.YtddbfjgodbfaoaaGreatDoor.T
open Go Go.Eng Go.Proofs.YtddbfjgodbfaoaaGreatDoor.Ty
inductive ErrA (c:Int):Nat->Bool->AV->Prop where
 | code (n:Int):ErrA c 0 (n==c) (.v (.iface 40 (.int .i64 n)))
 | wrap (op:ByteArray) (at_:Int) (d:Nat) (b:Bool) (e:AV) (h:ErrA c d b e):ErrA c (d+1) b (.ifc 155 (.agg [.v (.string op),.v (.int .i64 at_),e]))
theorem ErrA.one{c:Int}{d:Nat}{b:Bool}{e:AV}(h:ErrA c d b e):e.one=true:=by cases h <;> rfl
theorem is_av(c:Int)(d:Nat)(b:Bool)(e:AV)(h:ErrA c d b e):
  Meets Tryz.prog 101 [e,.v (.iface 40 (.int .i64 c)),.v (.bool true)] [] (fun r t=>r=.v (.bool b)):=by
 obtain ⟨K',hK'⟩:∃ K':AV->Hp->Prop,K'=(fun r t=>r=.v (.bool b)):=⟨_,rfl⟩
 rw [<- hK'];refine Meets.body Tryz.func101 rfl rfl (by simp [Tryz.ntmps101]) ?_
 repeat' (first | refine AW.seq ?_ | ((first | refine AW.reg (by rfl) ?_ | refine AW.skip ?_ | refine AW.ret ?_ | refine AW.exit ?_);simp only [Y5,aop,ev,ofValue,Zd,Zv,Tryz.results101]) | refine AW.block ?_ | with_reducible refine AW.condT rfl ?_ | with_reducible refine AW.condF rfl ?_)
 obtain ⟨H,hH⟩:∃ H:Nat->Env->Hp->Prop,H=fun mm e st=>∃ (d:Nat) (x:AV),st=[]/\mm=d/\ErrA c d b x/\e 0=x/\e 1=.v (.iface 40 (.int .i64 c))/\e 2=.v (.bool true):=⟨_,rfl⟩
 refine (AW.loop H d (by rw [hH];exact ⟨d,e,rfl,rfl,h,rfl,rfl,rfl⟩) ?_)
 intro mm e st hst;rw [hH] at hst;obtain ⟨d,x,rfl,rfl,hx,e0,e1,e2⟩:=hst
 clear h
 cases hx with
 | code n =>
  by_cases hn:n=c
  ·subst hn
   repeat' (first | refine AW.seq ?_ | ((first | refine AW.reg (by rfl) ?_ | refine AW.skip ?_ | refine AW.ret ?_ | refine AW.exit ?_);simp only [Y5,aop,ev,ofValue,Zd,Zv,Xm,APost,ares,Y9,Za,Yx,Nat.reduceEqDiff,↓reduceIte,List.getElem?_cons_zero,List.getElem?_cons_succ,and_true,X5,apick,aifeq,Option.bind_some,reduceCtorEq,Xj,cmp_40,e0,e1,e2,beq_self_eq_true]) | refine AW.block ?_ | with_reducible refine AW.condT rfl ?_ | with_reducible refine AW.condF rfl ?_)
   rw [hK',beq_self_eq_true]
  ·have hn1:(n==c)=false:=by simpa using hn
   repeat' (first | refine AW.seq ?_ | ((first | refine AW.reg (by rfl) ?_ | refine AW.skip ?_ | refine AW.ret ?_ | refine AW.exit ?_);simp only [undef,Y5,aop,ev,ofValue,Zd,Zv,Xm,APost,ares,Y9,Za,Yx,Nat.reduceEqDiff,↓reduceIte,List.getElem?_cons_zero,List.getElem?_cons_succ,true_and,and_true,X5,apick,W4,Wc,aifeq,Wb,Option.bind_some,reduceCtorEq,Bool.false_eq_true,Xj,cmp_40,iface_200,zero_200,impl_200_40,iface_192,zero_192,impl_192_40,iface_194,zero_194,impl_194_40,e0,e1,e2,hn1]) | refine AW.block ?_ | with_reducible refine AW.condT rfl ?_ | with_reducible refine AW.condF rfl ?_)
   rw [hK',hn1]
 | wrap op at_ d b x hx =>
  have h1:=hx.one;have fin:∀ e:Env,e 0=x->e 1=.v (.iface 40 (.int .i64 c))->e 2=.v (.bool true)->LEnd H (d+1) e []:=by
   intro e g0 g1 g2;rw [hH];exact ⟨d,[],by omega,by simp,by simp [Hp.keys],d,x,rfl,rfl,hx,g0,g1,g2⟩
  cases hx with
  | code n =>
   repeat' (first | refine AW.seq ?_ | ((first | refine AW.reg (by rfl) ?_ | refine AW.skip ?_ | refine AW.ret ?_ | refine AW.exit ?_);simp only [undef,Y5,aop,Yv,ev,ofValue,Zd,Zv,Za,Yx,Nat.reduceEqDiff,↓reduceIte,List.map_nil,List.getElem?_cons_zero,List.getElem?_cons_succ,true_and,and_true,Nat.zero_add,X5,apick,W4,Wc,aifeq,Xd,ne_eq,not_false_eq_true,Wb,Option.bind_some,reduceCtorEq,Bool.false_eq_true,Xj,iface_200,zero_200,impl_200_155,iface_192,zero_192,impl_192_155,meth_155_Unwrap,e0,e1,e2]) | refine AW.block ?_ | with_reducible refine AW.condT rfl ?_ | with_reducible refine AW.condF rfl ?_)
   refine unwrap op at_ _ h1 _ _ ?_
   skip
   repeat' (first | refine AW.seq ?_ | ((first | refine AW.reg (by rfl) ?_ | refine AW.skip ?_ | refine AW.ret ?_ | refine AW.exit ?_);simp only [Y5,aop,ev,ofValue,Zd,Zv,Xm,Za,↓reduceIte,X5,anil,W0,Xj]) | refine AW.block ?_ | with_reducible refine AW.condT rfl ?_ | with_reducible refine AW.condF rfl ?_)
   exact fin _ (by simp [Za]) (by simp [Za,e1]) (by simp [Za,e2])
  | wrap op2 at2 d2 b2 x2 hx2 =>
   repeat' (first | refine AW.seq ?_ | ((first | refine AW.reg (by rfl) ?_ | refine AW.skip ?_ | refine AW.ret ?_ | refine AW.exit ?_);simp only [undef,Y5,aop,Yv,ev,ofValue,Zd,Zv,Za,Yx,Nat.reduceEqDiff,↓reduceIte,List.map_nil,List.getElem?_cons_zero,List.getElem?_cons_succ,true_and,and_true,X5,apick,W4,Wc,aifeq,Xd,ne_eq,not_false_eq_true,Wb,Option.bind_some,reduceCtorEq,Bool.false_eq_true,Xj,iface_200,zero_200,impl_200_155,iface_192,zero_192,impl_192_155,meth_155_Unwrap,e0,e1,e2]) | refine AW.block ?_ | with_reducible refine AW.condT rfl ?_ | with_reducible refine AW.condF rfl ?_)
   refine unwrap op at_ _ h1 _ _ ?_
   skip
   repeat' (first | refine AW.seq ?_ | ((first | refine AW.reg (by rfl) ?_ | refine AW.skip ?_ | refine AW.ret ?_ | refine AW.exit ?_);simp only [Y5,aop,ev,ofValue,Zd,Zv,Xm,Za,↓reduceIte,X5,anil,W0,Xj]) | refine AW.block ?_ | with_reducible refine AW.condT rfl ?_ | with_reducible refine AW.condF rfl ?_)
   exact fin _ (by simp [Za]) (by simp [Za,e1]) (by simp [Za,e2])
theorem one_arg{I:Imm}{vs:Array Value}{x:Value}(h:RVs I vs [.v x]):vs = #[x]:=by
 have h0:=h.rv 0 _ rfl;have:=h.len;apply Array.ext
 ·simpa using this
 ·intro i h1 h2
  have:i=0:=by simp at h2;omega
  subst this;have h3:=h0.of_v;simp only [Array.getD_eq_getD_getElem?] at h3;rw [Array.getElem?_eq_getElem h1] at h3;simpa using h3
noncomputable def tyH:Value:=typeHandle Tryz.prog 40
theorem tyof_run(c:Int)(w:World):(Extern.ReflectliteType.typeOf #[.iface 40 (.int .i64 c)]).run Tryz.prog w=.ok (.iface 185 (.agg #[tyH])) w:=by kernel_rfl
theorem cmp_run(w:World):(Extern.ReflectliteType.method (fun t=>do Extern.Rtype.noPackHeld "Comparable" t;pure (.bool (<- typeInfo t).comparable)) #[.agg #[tyH]]).run Tryz.prog w=.ok (.bool true) w:=by kernel_rfl
theorem tyof_av(c:Int)(s:Hp)(K:AV->Hp->Prop)(hk:K (.v (.iface 185 (.agg #[tyH]))) s):Meets Tryz.prog 100 [.v (.iface 40 (.int .i64 c))] s K:=by
 refine Meets.extern Tryz.func100 (by kernel_rfl) (by kernel_rfl) (by kernel_rfl) (by kernel_rfl:_=some Extern.ReflectliteType.typeOf) ?_
 intro I w vs hs ha;rw [one_arg ha];exact ⟨_,w,_,s,I,tyof_run c w,hk,hs,.v _,Ext.refl _ _ _⟩
theorem cmp_av(s:Hp)(K:AV->Hp->Prop)(hk:K (.v (.bool true)) s):Meets Tryz.prog 151 [.v (.agg #[tyH])] s K:=by
 refine Meets.extern Tryz.func151 (by kernel_rfl) (by kernel_rfl) (by kernel_rfl) (by kernel_rfl:_=some (Extern.ReflectliteType.method fun t=>do Extern.Rtype.noPackHeld "Comparable" t;pure (.bool (<- typeInfo t).comparable))) ?_
 intro I w vs hs ha;rw [one_arg ha];exact ⟨_,w,_,s,I,cmp_run w,hk,hs,.v _,Ext.refl _ _ _⟩
theorem eis_av(c:Int)(d:Nat)(b:Bool)(e:AV)(h:ErrA c d b e):
  Meets Tryz.prog 82 [e,.v (.iface 40 (.int .i64 c))] [] (fun r t=>r=.v (.bool b)):=by
 obtain ⟨K',hK'⟩:∃ K':AV->Hp->Prop,K'=(fun r t=>r=.v (.bool b)):=⟨_,rfl⟩
 rw [<- hK'];refine Meets.body Tryz.func82 rfl rfl (by simp [Tryz.ntmps82]) ?_
 cases h with
 | code n =>
  repeat' (first | refine AW.seq ?_ | ((first | refine AW.reg (by rfl) ?_ | refine AW.skip ?_ | refine AW.ret ?_ | refine AW.exit ?_);simp only [undef,Y5,aop,Yv,ev,ofValue,Zd,Zv,Za,Yh,Yx,Nat.reduceEqDiff,↓reduceIte,List.getD_cons_zero,List.getD_cons_succ,List.map_cons,List.map_nil,List.nil_append,List.append_nil,List.getElem?_cons_zero,List.getElem?_cons_succ,X5,apick,anil,W0,Xd,Option.bind_some,reduceCtorEq,Bool.false_eq_true,Xj,Tryz.results82]) | refine AW.block ?_ | with_reducible refine AW.condT rfl ?_ | with_reducible refine AW.condF rfl ?_)
  refine tyof_av c _ _ ?_
  refine ⟨151,_,fun w=>Mac.meth?_sound (by kernel_rfl) _ w,?_⟩
  refine cmp_av _ _ ?_
  skip
  repeat' (first | refine AW.seq ?_ | ((first | refine AW.reg (by rfl) ?_ | refine AW.skip ?_ | refine AW.ret ?_ | refine AW.exit ?_);simp only [undef,Y5,aop,Yv,ev,Zd,Zv,Za,Yh,Nat.reduceEqDiff,↓reduceIte,List.getD_cons_zero,List.getD_cons_succ,List.map_cons,List.map_nil,List.nil_append,List.append_nil,reduceCtorEq]) | refine AW.block ?_ | with_reducible refine AW.condT rfl ?_ | with_reducible refine AW.condF rfl ?_)
  refine (is_av c _ _ _ (.code n)).mono ?_
  rintro r t rfl
  skip
  repeat' (first | refine AW.seq ?_ | ((first | refine AW.reg (by rfl) ?_ | refine AW.skip ?_ | refine AW.ret ?_ | refine AW.exit ?_);simp only [APost,ares,Y9,Za,↓reduceIte]) | refine AW.block ?_ | with_reducible refine AW.condT rfl ?_ | with_reducible refine AW.condF rfl ?_)
  rw [hK']
 | wrap op at_ d b x hx =>
  repeat' (first | refine AW.seq ?_ | ((first | refine AW.reg (by rfl) ?_ | refine AW.skip ?_ | refine AW.ret ?_ | refine AW.exit ?_);simp only [undef,Y5,aop,Yv,ev,ofValue,Zd,Zv,Za,Yh,Yx,Nat.reduceEqDiff,↓reduceIte,List.getD_cons_zero,List.getD_cons_succ,List.map_cons,List.map_nil,List.nil_append,List.append_nil,List.getElem?_cons_zero,List.getElem?_cons_succ,X5,apick,anil,W0,Xd,Option.bind_some,reduceCtorEq,Bool.false_eq_true,Xj,Tryz.results82]) | refine AW.block ?_ | with_reducible refine AW.condT rfl ?_ | with_reducible refine AW.condF rfl ?_)
  refine tyof_av c _ _ ?_
  refine ⟨151,_,fun w=>Mac.meth?_sound (by kernel_rfl) _ w,?_⟩
  refine cmp_av _ _ ?_
  skip
  repeat' (first | refine AW.seq ?_ | ((first | refine AW.reg (by rfl) ?_ | refine AW.skip ?_ | refine AW.ret ?_ | refine AW.exit ?_);simp only [undef,Y5,aop,Yv,ev,Zd,Zv,Za,Yh,Nat.reduceEqDiff,↓reduceIte,List.getD_cons_zero,List.getD_cons_succ,List.map_cons,List.map_nil,List.nil_append,List.append_nil,reduceCtorEq]) | refine AW.block ?_ | with_reducible refine AW.condT rfl ?_ | with_reducible refine AW.condF rfl ?_)
  refine (is_av c _ _ _ (.wrap op at_ d b x hx)).mono ?_
  rintro r t rfl
  skip
  repeat' (first | refine AW.seq ?_ | ((first | refine AW.reg (by rfl) ?_ | refine AW.skip ?_ | refine AW.ret ?_ | refine AW.exit ?_);simp only [APost,ares,Y9,Za,↓reduceIte]) | refine AW.block ?_ | with_reducible refine AW.condT rfl ?_ | with_reducible refine AW.condF rfl ?_)
  rw [hK']
theorem eis_nil(c:Int):Meets Tryz.prog 82 [.v .nilIface,.v (.iface 40 (.int .i64 c))] [] (fun r t=>r=.v (.bool false)):=by
 obtain ⟨K',hK'⟩:∃ K':AV->Hp->Prop,K'=(fun r t=>r=.v (.bool false)):=⟨_,rfl⟩
 rw [<- hK'];refine Meets.body Tryz.func82 rfl rfl (by simp [Tryz.ntmps82]) ?_
 repeat' (first | refine AW.seq ?_ | ((first | refine AW.reg (by rfl) ?_ | refine AW.skip ?_ | refine AW.ret ?_ | refine AW.exit ?_);simp only [undef,Y5,aop,ev,ofValue,Zd,Zv,APost,ares,Y9,Za,Yh,Yx,Nat.reduceEqDiff,↓reduceIte,List.getD_cons_zero,List.getD_cons_succ,List.getElem?_cons_zero,List.getElem?_cons_succ,X5,apick,anil,W0,aifeq,Option.bind_some,reduceCtorEq,Xj,Tryz.results82]) | refine AW.block ?_ | with_reducible refine AW.condT rfl ?_ | with_reducible refine AW.condF rfl ?_)
 rw [hK']
end Go.Proofs.YtddbfjgodbfaoaaGreatDoor.T
namespace Go.Mac
open Go Go.Eng Go.Pl Go.Proofs Go.Proofs.YtddbfjgodbfaoaaGreatDoor.T
theorem isErr_ok(R:Inst)(l:Bool)(c:Int):∀ e:LV,isErr e=true->∃ d,ErrA c d (isIn c e) (Z0 R l e)
 | .ifc 40 (.int .i64 n),_=>⟨0,by
   have:Z0 R l (.ifc 40 (.int .i64 n))=.v (.iface 40 (.int .i64 n)):=by cases l <;> simp [Z0,mkIfc]
   rw [this];exact .code n⟩
 | .ifc 155 (.agg [.str s,.int .i64 a,x]),h=>by
   have h':isErr x=true:=by simpa [isErr] using h
   obtain ⟨d,hd⟩:=isErr_ok R l c x h';refine ⟨d+1,?_⟩;have:Z0 R l (.ifc 155 (.agg [.str s,.int .i64 a,x]))=.ifc 155 (.agg [.v (.string ⟨s.toArray⟩),.v (.int .i64 a),Z0 R l x]):=by cases l <;> simp [Z0,Z4,mkIfc]
   rw [this];have e2:isIn c (.ifc 155 (.agg [.str s,.int .i64 a,x]))=isIn c x:=by simp [isIn]
   rw [e2];exact .wrap _ _ _ _ _ hd
theorem lm_is{as_:List LV}{st st':St}{v:LV}(h:xIs as_ st=some (v,st')):LMeets Tryz.prog 82 as_ st v st':=by
 unfold xIs at h
 split at h
 case h_2=>simp at h
 rename_i e c;have hc:∀ R:Inst,Z4 R true [e,.ifc 40 (.int .i64 c)]=[Z0 R true e,.v (.iface 40 (.int .i64 c))]:=fun R=>by simp [Z4,Z0,mkIfc]
 split at h
 ·rename_i he
  simp only [Option.some.injEq,Prod.mk.injEq] at h;obtain ⟨rfl,rfl⟩:=h
  intro R s hs hr;obtain ⟨d,hd⟩:=isErr_ok R true c e he;rw [hc];refine Meets.alone ((eis_av c d _ _ hd).mono ?_);rintro r t rfl;exact LPost.pure hs (by simp only [Z0];exact Wk.refl _) (by simp [Z8])
 ·split at h
  ·simp only [Option.some.injEq,Prod.mk.injEq] at h
   obtain ⟨rfl,rfl⟩:=h
   intro R s hs hr;rw [hc];simp only [Z0];refine Meets.alone ((eis_nil c).mono ?_);rintro r t rfl;exact LPost.pure hs (by simp only [Z0];exact Wk.refl _) (by simp [Z8])
  ·simp at h
end Go.Mac
namespace Go.Mac
open Go.Proofs Go.RowKit Go.Maps Go.Sort Go.Shelf
def keysA_ren:Go.Shelf.Ren:=⟨fun | 7=>61 | 10=>93 | n=>n,fun | 23=>94 | 26=>3 | 3=>37 | 28=>129 | 0=>0 | 27=>128 | 33=>135 | 4=>4 | n=>n,fun n=>n⟩
theorem keysA:SlLaysZI.n7 Tryz.prog keysA_ren where
 mixed:=by kernel_rfl
 f7:=⟨ "maps.Keys[map[int][]byte,int,[]byte]",by decide,Tryz.func61.trans (congrArg some (by kernel_rfl))⟩
 f10:=⟨ "maps.Keys[map[int][]byte,int,[]byte]$1",by decide,Tryz.func93.trans (congrArg some (by kernel_rfl))⟩
 t0:=Tryz.underlying0
 a0:=Tryz.isAgg0
 z0:=Tryz.sizeOf0
 v0:=Tryz.zeroValue0
 t4:=Tryz.underlying4
 a4:=Tryz.isAgg4
 z4:=Tryz.sizeOf4
 v4:=Tryz.zeroValue4
 t23:=Tryz.underlying94
 a23:=Tryz.isAgg94
 z23:=Tryz.sizeOf94
 v23:=Tryz.zeroValue94
 t26:=Tryz.underlying3
 a26:=Tryz.isAgg3
 z26:=Tryz.sizeOf3
 v26:=Tryz.zeroValue3
 t27:=Tryz.underlying128
 a27:=Tryz.isAgg128
 z27:=Tryz.sizeOf128
 v27:=Tryz.zeroValue128
 t28:=Tryz.underlying129
 a28:=Tryz.isAgg129
 z28:=Tryz.sizeOf129
 v28:=Tryz.zeroValue129
 t33:=Tryz.underlying135
 a33:=Tryz.isAgg135
 z33:=Tryz.sizeOf135
 v33:=Tryz.zeroValue135
def sortedA_ren:Go.Shelf.Ren:=⟨fun | 6=>60 | 8=>91 | 9=>92 | 11=>105 | 13=>107 | 12=>106 | 23=>117 | 24=>118 | 14=>108 | 15=>109 | 16=>110 | 17=>111 | 18=>112 | 19=>113 | 20=>114 | 21=>115 | 22=>116 | 25=>119 | 26=>120 | 27=>121 | 28=>122 | 29=>123 | 30=>124 | 31=>125 | n=>n,fun | 26=>3 | 28=>129 | 24=>44 | 0=>0 | 3=>3 | 37=>113 | 48=>213 | 50=>150 | 4=>4 | 40=>205 | 39=>204 | 45=>210 | 5=>5 | 9=>9 | 51=>215 | 55=>219 | 57=>221 | 58=>222 | 33=>135 | n=>n,fun n=>n⟩
theorem sortedA:SlLaysZI.n6 Tryz.prog sortedA_ren where
 mixed:=by kernel_rfl
 f6:=⟨ "slices.Sorted[int]",by decide,Tryz.func60.trans (congrArg some (by kernel_rfl))⟩
 f8:=⟨ "slices.Collect[int]",by decide,Tryz.func91.trans (congrArg some (by kernel_rfl))⟩
 f11:=⟨ "slices.AppendSeq[[]int,int]",by decide,Tryz.func105.trans (congrArg some (by kernel_rfl))⟩
 t0:=Tryz.underlying0
 a0:=Tryz.isAgg0
 z0:=Tryz.sizeOf0
 v0:=Tryz.zeroValue0
 t24:=Tryz.underlying44
 a24:=Tryz.isAgg44
 z24:=Tryz.sizeOf44
 v24:=Tryz.zeroValue44
 t26:=Tryz.underlying3
 a26:=Tryz.isAgg3
 z26:=Tryz.sizeOf3
 v26:=Tryz.zeroValue3
 t28:=Tryz.underlying129
 a28:=Tryz.isAgg129
 z28:=Tryz.sizeOf129
 v28:=Tryz.zeroValue129
 i26:=by kernel_rfl
def sortA_ren:Go.Shelf.Ren:=⟨fun | 5=>92 | 8=>107 | 7=>106 | 19=>117 | 20=>118 | 10=>108 | 11=>109 | 12=>110 | 13=>111 | 14=>112 | 15=>113 | 16=>114 | 17=>115 | 18=>116 | 30=>119 | 31=>120 | 32=>121 | 33=>122 | 34=>123 | 35=>124 | 40=>125 | n=>n,fun | 23=>44 | 25=>3 | 3=>3 | 32=>113 | 22=>44 | 0=>0 | 44=>213 | 46=>150 | 4=>4 | 36=>205 | 35=>204 | 41=>210 | 5=>5 | 9=>9 | 53=>215 | 57=>219 | 63=>221 | 64=>222 | n=>n,fun n=>n⟩
theorem sortA:SlLaysM.n5 Tryz.prog sortA_ren where
 mixed:=by kernel_rfl
 f5:=⟨ "slices.Sort[[]int,int]",by decide,Tryz.func92.trans (congrArg some (by kernel_rfl))⟩
 f7:=⟨ "slices.pdqsortOrdered[int]",by decide,Tryz.func106.trans (congrArg some (by kernel_rfl))⟩
 f8:=Tryz.func107.trans (congrArg some (by kernel_rfl))
 f10:=⟨ "slices.insertionSortOrdered[int]",by decide,Tryz.func108.trans (congrArg some (by kernel_rfl))⟩
 f11:=⟨ "slices.heapSortOrdered[int]",by decide,Tryz.func109.trans (congrArg some (by kernel_rfl))⟩
 f12:=⟨ "slices.breakPatternsOrdered[int]",by decide,Tryz.func110.trans (congrArg some (by kernel_rfl))⟩
 f13:=⟨ "slices.choosePivotOrdered[int]",by decide,Tryz.func111.trans (congrArg some (by kernel_rfl))⟩
 f14:=⟨ "slices.reverseRangeOrdered[int]",by decide,Tryz.func112.trans (congrArg some (by kernel_rfl))⟩
 f15:=⟨ "slices.partialInsertionSortOrdered[int]",by decide,Tryz.func113.trans (congrArg some (by kernel_rfl))⟩
 f16:=⟨ "cmp.Less[int]",by decide,Tryz.func114.trans (congrArg some (by kernel_rfl))⟩
 f17:=⟨ "slices.partitionEqualOrdered[int]",by decide,Tryz.func115.trans (congrArg some (by kernel_rfl))⟩
 f18:=⟨ "slices.partitionOrdered[int]",by decide,Tryz.func116.trans (congrArg some (by kernel_rfl))⟩
 f19:=Tryz.func117.trans (congrArg some (by kernel_rfl))
 f20:=Tryz.func118.trans (congrArg some (by kernel_rfl))
 f30:=⟨ "slices.siftDownOrdered[int]",by decide,Tryz.func119.trans (congrArg some (by kernel_rfl))⟩
 f31:=Tryz.func120.trans (congrArg some (by kernel_rfl))
 f32:=Tryz.func121.trans (congrArg some (by kernel_rfl))
 f33:=⟨ "slices.medianAdjacentOrdered[int]",by decide,Tryz.func122.trans (congrArg some (by kernel_rfl))⟩
 f34:=⟨ "slices.medianOrdered[int]",by decide,Tryz.func123.trans (congrArg some (by kernel_rfl))⟩
 f35:=⟨ "cmp.isNaN[int]",by decide,Tryz.func124.trans (congrArg some (by kernel_rfl))⟩
 f40:=⟨ "slices.order2Ordered[int]",by decide,Tryz.func125.trans (congrArg some (by kernel_rfl))⟩
 t0:=Tryz.underlying0
 a0:=Tryz.isAgg0
 z0:=Tryz.sizeOf0
 v0:=Tryz.zeroValue0
 t3:=Tryz.underlying3
 a3:=Tryz.isAgg3
 z3:=Tryz.sizeOf3
 v3:=Tryz.zeroValue3
 t4:=Tryz.underlying4
 a4:=Tryz.isAgg4
 z4:=Tryz.sizeOf4
 v4:=Tryz.zeroValue4
 t5:=Tryz.underlying5
 a5:=Tryz.isAgg5
 z5:=Tryz.sizeOf5
 v5:=Tryz.zeroValue5
 t9:=Tryz.underlying9
 a9:=Tryz.isAgg9
 z9:=Tryz.sizeOf9
 v9:=Tryz.zeroValue9
 t22:=Tryz.underlying44
 a22:=Tryz.isAgg44
 z22:=Tryz.sizeOf44
 v22:=Tryz.zeroValue44
 t23:=Tryz.underlying44
 a23:=Tryz.isAgg44
 z23:=Tryz.sizeOf44
 v23:=Tryz.zeroValue44
 t25:=Tryz.underlying3
 a25:=Tryz.isAgg3
 z25:=Tryz.sizeOf3
 v25:=Tryz.zeroValue3
 t32:=Tryz.underlying113
 a32:=Tryz.isAgg113
 z32:=Tryz.sizeOf113
 v32:=Tryz.zeroValue113
 t35:=Tryz.underlying204
 a35:=Tryz.isAgg204
 z35:=Tryz.sizeOf204
 v35:=Tryz.zeroValue204
 t36:=Tryz.underlying205
 a36:=Tryz.isAgg205
 z36:=Tryz.sizeOf205
 v36:=Tryz.zeroValue205
 t41:=Tryz.underlying210
 a41:=Tryz.isAgg210
 z41:=Tryz.sizeOf210
 v41:=Tryz.zeroValue210
 t44:=Tryz.underlying213
 a44:=Tryz.isAgg213
 z44:=Tryz.sizeOf213
 v44:=Tryz.zeroValue213
 t46:=Tryz.underlying150
 a46:=Tryz.isAgg150
 z46:=Tryz.sizeOf150
 v46:=Tryz.zeroValue150
 t53:=Tryz.underlying215
 a53:=Tryz.isAgg215
 z53:=Tryz.sizeOf215
 v53:=Tryz.zeroValue215
 t57:=Tryz.underlying219
 a57:=Tryz.isAgg219
 z57:=Tryz.sizeOf219
 v57:=Tryz.zeroValue219
 t63:=Tryz.underlying221
 a63:=Tryz.isAgg221
 z63:=Tryz.sizeOf221
 v63:=Tryz.zeroValue221
 t64:=Tryz.underlying222
 a64:=Tryz.isAgg222
 z64:=Tryz.sizeOf222
 v64:=Tryz.zeroValue222
end Go.Mac
namespace Go.Mac
open Go Go.Eng Go.Proofs Go.RowKit Go.Maps Go.Sort Go.Shelf Go.WideElems
theorem sorts_seat(m:Nat):AnyZI.SortsIn Tryz.prog sortedA_ren Fence.wide m:=
 ⟨fun blk off cap ss W hH hblk hsz=>callsIn_wide.2 (AnyM.slices_Sort_int sortA blk off cap ss W hH hblk hsz),
  fun p cap W=>callsIn_wide.2 (AnyM.slices_Sort_int_none sortA p cap W)⟩
def RU:Value->Option (DataW Unit × List MemPlace):=fun _=>some (.nil,[])
theorem rd_int{k:Int}(hk:(Lit.int .i64 k).wf=true)(v:Value)(n:Nat):rd Tryz.prog 3 RU ⟨encZ k,v,n⟩=some (.int .i64 k,.nil):=by
 have h:=Tryz.underlying3;unfold WideElems.rd;simp [RU,keyOf,mapKey,h,hk]
theorem sorted_calls(w:World)(p b:Nat)(c:Array MapEntry)(cl:Nat)(keys:List Int)(hp:w.cell? ⟨p,0,none⟩=some (.map (some b)))(hplt:p<w.heap.size)(hb:w.heap[b]? = some (.map c cl))(hst:MapKept.Stamped c cl)(hkeys:c.toList.map (·.key)=keys.map encZ)(hwf:∀ k∈keys,(Lit.int .i64 k).wf=true)(hlen:keys.length<=1000000):
  Calls Tryz.prog 60 #[.func (.func 93) #[] #[.pointer (some ⟨p,0,none⟩)]] w fun e w'=>∃ v,e=.returned v /\
   w'.ownsRow w.heap.size 3 1 v keys.length ((keys.mergeSort leI).map encZ)/\(v=.slice none 0 0↔keys=[])/\Below w.heap.size w w':=by
 have hcl:c.toList.length=keys.length:=by
  have:=congrArg List.length hkeys;simpa using this
 have hsz:c.size=keys.length:=by simpa using hcl
 have hrd:∀ x∈c.toList,∃ k,x.key=encZ k/\k∈keys/\rd Tryz.prog 3 RU x=some (.int .i64 k,.nil):=by
  intro x hx;have:x.key∈keys.map encZ:=by rw [<- hkeys];exact List.mem_map.2 ⟨x,hx,rfl⟩
  obtain ⟨k,hk,he⟩:=List.mem_map.1 this;refine ⟨k,he.symm,hk,?_⟩;obtain ⟨xk,xv,xb⟩:=x
  simp only at he;subst he;exact rd_int (hwf k hk) xv xb
 have hfit:Fit Tryz.prog 3 RU c cl:=⟨by rw [hsz];unfold maxLen;omega,hst,fun x hx=>by obtain ⟨k,_,_,h⟩:=hrd x hx;exact ⟨_,h⟩⟩
 have hown:w.ownsMap Tryz.prog 3 RU b c.size (.map ((c.toList.map (rg Tryz.prog 3 RU)).foldr DataW.insert [])):=⟨c,cl,hb,hfit,Nat.le_refl _,rfl⟩;have hperm:=WideShapes.sorted_perm (c.toList.map (rg Tryz.prog 3 RU));have hrgk:(c.toList.map (rg Tryz.prog 3 RU)).map (fun p=>intOf p.1)=keys:=by
  have h1:∀ (l:List MapEntry) (ks:List Int),(∀ x∈l,∃ k,x.key=encZ k/\rd Tryz.prog 3 RU x=some (.int .i64 k,.nil))->l.map (·.key)=ks.map encZ->(l.map (rg Tryz.prog 3 RU)).map (fun p=>intOf p.1)=ks:=by
   intro l
   induction l with
   | nil=>intro ks _ h;cases ks with
    | nil=>rfl
    | cons k ks=>simp at h
   | cons x l ih =>
    intro ks h1 h2
    cases ks with
    | nil=>simp at h2
    | cons k ks =>
     simp only [List.map_cons,List.cons.injEq] at h2;obtain ⟨k',e,hr⟩:=h1 x (by simp)
     have:k=k':=encZ_inj (h2.1.symm.trans e);subst this;simp only [List.map_cons,List.cons.injEq];exact ⟨by rw [rg_of hr];rfl,ih ks (fun y hy=>h1 y (by simp [hy])) h2.2⟩
  exact h1 _ _ (fun x hx=>by obtain ⟨k,e,_,h⟩:=hrd x hx;exact ⟨k,e,h⟩) hkeys
 have hik:(intKeys (DataW.map ((c.toList.map (rg Tryz.prog 3 RU)).foldr DataW.insert []))).Perm keys:=by
  show (((c.toList.map (rg Tryz.prog 3 RU)).foldr DataW.insert []).map fun p=>intOf p.1).Perm keys
  rw [<- hrgk];exact hperm.map _
 have hsize:Maps.size (DataW.map ((c.toList.map (rg Tryz.prog 3 RU)).foldr DataW.insert []))=keys.length:=by
  rw [Maps.size_eq,hperm.length_eq,List.length_map,hcl]
 have hseq:SeqGives Fence.wide 2 Tryz.prog 93 #[.pointer (some ⟨p,0,none⟩)] encZ (fun ss=>ss.Perm (intKeys (DataW.map ((c.toList.map (rg Tryz.prog 3 RU)).foldr DataW.insert [])))) keys.length w:=by
  rw [<- hsize];exact AnyZI.keys_gives (ρ:=keysA_ren) { keysA with } Fence.wide _ trivial rfl (by omega) p b c.size _ w hplt hp hown
 have cS:=AnyZI.sorted_in sortedA Fence.wide 5 trivial trivial trivial trivial rfl (by omega) (sorts_seat _) (enters_of Tryz.func92 (by kernel_rfl) rfl) 93 #[.pointer (some ⟨p,0,none⟩)] trivial (enters_of Tryz.func93 (by kernel_rfl) rfl) _ _ (by unfold maxLen;omega) (by omega) _ hseq
 refine (callsIn_wide (n:=5)).1 (cS.mono ?_);rintro e w' ⟨v,ss,rfl,hS,hrow,hnil,hbel⟩;have hp2:=hS.trans hik;have hms:ss.mergeSort (fun x y=>decide (x<=y))=keys.mergeSort leI:=mergeSort_of_perm_i hp2
 refine ⟨v,rfl,?_,?_,hbel⟩
 ·rw [<- hms,<- hp2.length_eq]
  exact hrow
 ·rw [hnil]
  exact ⟨fun h=>by rw [h] at hp2;exact hp2.symm.eq_nil,fun h=>by rw [h] at hp2;exact hp2.eq_nil⟩
end Go.Mac
namespace Go.Mac
open Go Go.Eng Go.Proofs
theorem ascB_pair:∀ {l:List Int},ascB l=true->l.Pairwise (fun a b=>a<=b)
 | [],_=>.nil
 | [_],_=>.cons (by simp) .nil
 | a::b::l,h=>by
  simp only [ascB,Bool.and_eq_true,decide_eq_true_eq] at h;have ih:=ascB_pair h.2;refine .cons (fun c hc=>?_) ih
  rcases List.mem_cons.1 hc with rfl | hc
  ·omega
  ·have:=(List.pairwise_cons.1 ih).1 c hc
   omega
theorem sort_asc{l k:List Int}(h:ascB l=true)(hp:k.Perm l):k.mergeSort leI=l:=by
 rw [mergeSort_of_perm_i hp];exact List.mergeSort_of_pairwise ((ascB_pair h).imp fun h=>by simpa [leI] using h)
theorem rel_below{I J:Imm}{s:Hp}{w w':World}(h:Rel I s w)(hb:RowKit.Below w.heap.size w w')(hI:I.le J)(hJ:∀ b o,J b=some o->w'.heap[b]? = some o)(hf:∀ b∈s.keys,J b=none):Rel J s w':=
 ⟨hJ,fun b o ho=>(h.obj b o ho).move (hb.block b (h.obj b o ho).lt) hI,hf,h.nodup,h.gnd.mono hI⟩
theorem key_lt{I:Imm}{s:Hp}{w:World}(h:Rel I s w){b:Nat}(hb:b∈s.keys):b<w.heap.size:=by
 obtain ⟨x,hx,rfl⟩:=List.mem_map.1 hb;exact (h.obj x.1 x.2 hx).lt
theorem rvs_one{I:Imm}{vs:Array Value}{v:Value}(h:RVs I vs [.v v]):vs = #[v]:=by
 have h1:vs.size=1:=by simpa using h.len
 have h2:=(h.rv 0 (.v v) rfl).of_v;apply Array.ext
 ·simp [h1]
 ·intro i hi hi2
  have:i=0:=by simp at hi2;omega
  subst this;have:vs.getD 0 undef=vs[0]:=by simp [Array.getD,h1]
  rw [<- this,h2];rfl
theorem lm_sorted{as_:List LV}{st st':St}{v:LV}(h:xSorted as_ st=some (v,st')):LMeets Tryz.prog 60 as_ st v st':=by
 unfold xSorted at h
 split at h
 case h_2=>simp at h
 rename_i g p
 split at h
 case h_2=>simp at h
 rename_i e b hlp
 split at h
 case h_2=>simp at h
 rename_i es hlb
 split at h
 case isFalse=>simp at h
 rename_i hc;obtain ⟨rfl,hasc,hwf,hlen⟩:=hc;simp only [Option.some.injEq,Prod.mk.injEq] at h;obtain ⟨rfl,rfl⟩:=h
 intro R s hs hr;unfold Meets;intro I w vs hrel hvs;obtain ⟨t1,t2,hob,_,hperm,_⟩:=hs.ents.focus hlp;obtain ⟨t3,t4,hob2,_,hperm2,_⟩:=hs.ents.focus hlb;have hin1:(R.ρ p,AObj.cells e [.v (.map (some (R.ρ b)))] 1)∈s:=by
  cases hob with
  | box _ _ us t h =>
   cases h with
   | cons h1 h =>
    cases h with
    | nil =>
     cases h1 with
     | other _ _ =>
      refine hperm.mem_iff.2 ?_
      simp [Z0]
 obtain ⟨es',hin2,hmok⟩:∃ es',(R.ρ b,AObj.imap .i64 es')∈s/\MapOk R es es':=by
  cases hob2 with
  | map _ _ es' hm=>exact ⟨es',hperm2.mem_iff.2 (by simp),hm⟩
 have hkp:(es'.map (·.1)).Perm (es.map (·.1)):=by
  have:=hmok.perm.map (·.1);simpa [Wi,Function.comp_def] using this
 have hvs':vs = #[.func (.func 93) #[] #[.pointer (some ⟨R.ρ p,0,none⟩)]]:=rvs_one (by simpa [Z4,Z0,Wh,Yt] using hvs)
 subst hvs';obtain ⟨c0,hc0⟩:=hrel.obj _ _ hin1;obtain ⟨c,cl,hm⟩:=hrel.obj _ _ hin2;have hcell:w.cell? ⟨R.ρ p,0,none⟩=some (.map (some (R.ρ b))):=by
  obtain ⟨x,h1,h2⟩:=hc0.cell 0 _ rfl;rw [h2.of_v] at h1;simp [World.cell?,hc0.block,h1]
 have hent:∀ j (hj:j<c.size),∃ q:Int × AV,es'[j]? = some q/\c[j].key=.int .i64 q.1/\c[j].born<cl:=by
  intro j hj;have hj':j<es'.length:=by rw [<- hm.full];exact hj
  obtain ⟨m,h1,h2,_,h4⟩:=hm.entry j es'[j] (List.getElem?_eq_getElem hj');rw [Array.getElem?_eq_getElem hj] at h1;injection h1 with h1
  subst h1;exact ⟨es'[j],List.getElem?_eq_getElem hj',h2,h4⟩
 have hkeys:c.toList.map (·.key)=(es'.map (·.1)).map encZ:=by
  apply List.ext_getElem?;intro j;rw [List.getElem?_map,List.getElem?_map,List.getElem?_map]
  by_cases hj:j<c.size
  ·obtain ⟨q,h1,h2,_⟩:=hent j hj
   rw [h1];simp [hj,h2]
  ·have hj':¬ j<es'.length:=by rw [<- hm.full];exact hj
   rw [List.getElem?_eq_none (by simpa using hj),List.getElem?_eq_none (by omega)]
   rfl
 have hst:MapKept.Stamped c cl:=by
  refine ⟨fun x hx=>?_,?_,?_⟩
  ·obtain ⟨j,hj,rfl⟩:=List.mem_iff_getElem.1 hx
   have hj':j<c.size:=by simpa using hj
   obtain ⟨_,_,_,h⟩:=hent j hj';simpa using h
  ·refine List.pairwise_iff_getElem.2 fun i j hi hj hij heq=>?_
   have hj':j<c.size:=by simpa using hj
   have hi':i<c.size:=by simpa using hi
   have:=hm.apart i j c[i] c[j] (Array.getElem?_eq_getElem hi') (Array.getElem?_eq_getElem hj') (by simpa using heq)
   omega
  ·rw [hkeys]
   have:=hmok.nd;exact List.Pairwise.map _ (fun a b hne heq=>hne (encZ_inj heq)) this
 have hw:∀ k∈es'.map (·.1),(Lit.int .i64 k).wf=true:=by
  intro k hk;have hk:=hkp.mem_iff.1 hk;obtain ⟨x,hx,rfl⟩:=List.mem_map.1 hk;have:=List.all_eq_true.1 hwf x hx;simp only [Bool.and_eq_true,decide_eq_true_eq] at this;have e1:IntKind.i64.min = -9223372036854775808:=rfl;have e2:IntKind.i64.max=9223372036854775807:=rfl;simp only [Lit.wf,Bool.and_eq_true,decide_eq_true_eq];omega
 have hl2:(es'.map (·.1)).length<=1000000:=by rw [hkp.length_eq];simpa using hlen
 have hC:=sorted_calls w (R.ρ p) (R.ρ b) c cl (es'.map (·.1)) hcell (hrel.obj _ _ hin1).lt hm.block hst hkeys hw hl2;rw [sort_asc hasc hkp,hkp.length_eq] at hC;refine .inl ⟨by kernel_rfl,hC.mono fun e' w' ⟨v,he,hrow,hnil,hbel⟩=>⟨v,he,?_⟩⟩
 have hpost:∀ J:Imm,LPost Tryz.prog R st (.isl 1 ((es.map (·.1)).map (LV.int .i64))) st (.sl 1 ((es.map (·.1)).map fun k=>AV.v (.int .i64 k))) s:=fun _=>by
  refine LPost.pure hs ?_ ?_
  ·simp only [Z0,Zy,List.map_map]
   exact Wk.refl _
  ·intro d hd
   simp [Z8] at hd
 rcases hrow.2 with ⟨rfl,hz⟩ | ⟨q,cap,cur,rfl,hq,hqb,hn,hcap,hcs,htk⟩
 ·have hes:es=[]:=by simpa using hz
  subst hes;exact ⟨_,s,I,hpost I,rel_below hrel hbel (Imm.le_refl I) (fun b o ho=>by rw [hbel.block b (hrel.imm_lt ho)];exact hrel.imm b o ho) hrel.free,.sl none 0 0 1 [] (fun _ _=>undef) rfl (Nat.le_refl _) (by decide) (by simp) (by simp) (by simp) (by simp),
   ⟨hbel.os,hbel.tape,hbel.output,hbel.size,fun b hb _=>hbel.block b hb,Imm.le_refl I,fun b hb=>.inr hb,fun b h k=>absurd h k⟩⟩
 ·have hnone:I q=none:=by
   cases hI:I q with
   | none=>rfl
   | some o=>have:=hrel.imm_lt hI;omega
  have hle:I.le (fun b=>if b=q then some (.cells cur 3 (0,0)) else I b):=by
   intro b o ho
   show (if b=q then _ else _)=_
   rw [if_neg (by intro e;rw [e,hnone] at ho;cases ho)]
   exact ho
  refine ⟨_,s,(fun b=>if b=q then some (.cells cur 3 (0,0)) else I b),hpost I,rel_below hrel hbel hle ?_ ?_,?_,?_⟩
  ·intro b o ho
   split at ho
   ·rename_i e;subst e;rw [<- ho];exact hqb
   ·rw [hbel.block b (hrel.imm_lt ho)];exact hrel.imm b o ho
  ·intro b hb
   have:=key_lt hrel hb
   show (if b=q then _ else _)=_
   rw [if_neg (by omega)]
   exact hrel.free b hb
  ·have hcell:∀ (i:Nat) (k:Int),(es.map (·.1))[i]? = some k->cur[i]? = some (.int .i64 k):=by
    intro i k hk;have h1:(cur.toList.take ((es.map (·.1)).length*1))[i]? = some (.int .i64 k):=by
     rw [htk,List.getElem?_map,hk];rfl
    rw [List.getElem?_take] at h1
    split at h1
    ·simpa using h1
    ·simp at h1
   refine .sl _ _ _ 1 _ (fun i _=>.int .i64 ((es.map (·.1)).getD i 0)) (by simp) hn ?_ ?_ (fun _=>⟨_,rfl,rfl⟩) ?_ ?_
   ·have:big=big:=rfl
    simp only [List.length_map];unfold big;omega
   ·intro i x hx
    rw [List.getElem?_map] at hx;obtain ⟨k,_,rfl⟩:=Option.map_eq_some_iff.1 hx
    rfl
   ·intro i x j u ad hx hu had
    injection had with had;subst had
    rw [List.getElem?_map] at hx;obtain ⟨k,hk,rfl⟩:=Option.map_eq_some_iff.1 hx;have hj:j=0:=by
     cases j with
     | zero=>rfl
     | succ j=>simp [cellsOf] at hu
    subst hj;have:=hcell i k hk;simp only [Imm.cell,Option.isSome_none,Bool.false_eq_true,if_false,if_true,Nat.zero_add,Nat.mul_one,Nat.add_zero,this];rw [List.getD_eq_getElem?_getD,hk];rfl
   ·intro i x j u hx hu
    rw [List.getElem?_map] at hx;obtain ⟨k,hk,rfl⟩:=Option.map_eq_some_iff.1 hx;have hj:j=0:=by
     cases j with
     | zero=>rfl
     | succ j=>simp [cellsOf] at hu
    subst hj;have hu:AV.v (.int .i64 k)=u:=by simpa [cellsOf] using hu
    subst hu;rw [List.getD_eq_getElem?_getD,hk];exact .v _
  ·refine ⟨hbel.os,hbel.tape,hbel.output,hbel.size,fun b hb _=>hbel.block b hb,hle,fun b hb=>.inr hb,fun b h1 h2=>?_⟩
   by_cases e:b=q
   ·subst e;exact .inl hq
   ·exfalso
    exact h2 (by show (if b=q then _ else _)=none;rw [if_neg e];exact h1)
end Go.Mac
namespace Go.Proofs.YtddbfjgodbfaoaaGreatDoor.T
open Go Go.Eng Go.RowKit Go.Extern Go.Proofs.YtddbfjgodbfaoaaGreatDoor.Ty
abbrev hdl(t:Nat):Value:=.pointer (some ⟨1,t,none⟩)
abbrev hC:Value:=hdl 40
abbrev hP:Value:=hdl 112
abbrev rtv(h:Value):Value:=.iface 185 (.agg #[h])
theorem valueOfP_run(a:Addr)(w:World):(ReflectliteValue.unpack (.iface 112 (.pointer (some a)))).run Tryz.prog w=.ok (.agg #[hP,.pointer (some ⟨w.heap.size,0,none⟩),.int .u64 150]) (w.alloc (.cells #[.pointer (some a)] 112)):=by kernel_rfl
theorem valueOfC_run(c:Int)(w:World):(ReflectliteValue.unpack (.iface 40 (.int .i64 c))).run Tryz.prog w=.ok (.agg #[hC,.pointer (some ⟨w.heap.size,0,none⟩),.int .u64 130]) (w.alloc (.cells #[.int .i64 c] 40)):=by kernel_rfl
theorem typeP_run(a:Addr)(w:World):(ReflectliteValue.methodAny (ReflectliteValue.valueError "reflectlite.Value.Type" 0) (fun t _ _ _=>ReflectliteType.toType t) #[.agg #[hP,.pointer (some a),.int .u64 150]]).run Tryz.prog w=.ok (rtv hP) w:=by kernel_rfl
theorem mKind(h:Value):MethV Tryz.prog 185 "Kind" (.agg #[h]) 140 h:=fun w=>by kernel_rfl
theorem mElem(h:Value):MethV Tryz.prog 185 "Elem" (.agg #[h]) 152 (.agg #[h]):=fun w=>by kernel_rfl
theorem mImpl(h:Value):MethV Tryz.prog 185 "Implements" (.agg #[h]) 153 (.agg #[h]):=fun w=>by kernel_rfl
theorem mAssn(h:Value):MethV Tryz.prog 185 "AssignableTo" (.agg #[h]) 150 (.agg #[h]):=fun w=>by kernel_rfl
theorem kindP_run(w:World):((ReflectliteType.abiMethod fun t=>do pure (Value.int IntKind.u8 (<- Rtype.kind t))) #[hP]).run Tryz.prog w=.ok (.int .u8 22) w:=by kernel_rfl
theorem kindC_run(w:World):((ReflectliteType.abiMethod fun t=>do pure (Value.int IntKind.u8 (<- Rtype.kind t))) #[hC]).run Tryz.prog w=.ok (.int .u8 2) w:=by kernel_rfl
theorem elemT_run(w:World):(ReflectliteType.method ReflectliteType.elem #[.agg #[hP]]).run Tryz.prog w=.ok (rtv hC) w:=by kernel_rfl
theorem implC_run(w:World):(ReflectliteType.relation "Implements" ReflectliteType.implements_ #[.agg #[hC],rtv (hdl 27)]).run Tryz.prog w=.ok (.bool true) w:=by kernel_rfl
theorem tyofC_run(v:Value)(w:World):(ReflectliteType.typeOf #[.iface 40 v]).run Tryz.prog w=.ok (rtv hC) w:=by kernel_rfl
theorem tyofF_run(v:Value)(w:World):(ReflectliteType.typeOf #[.iface 155 v]).run Tryz.prog w=.ok (rtv (hdl 155)) w:=by kernel_rfl
theorem assnC_run(w:World):(ReflectliteType.relation "AssignableTo" ReflectliteType.assignableTo #[.agg #[hC],rtv hC]).run Tryz.prog w=.ok (.bool true) w:=by kernel_rfl
theorem assnF_run(w:World):(ReflectliteType.relation "AssignableTo" ReflectliteType.assignableTo #[.agg #[hdl 155],rtv hC]).run Tryz.prog w=.ok (.bool false) w:=by kernel_rfl
theorem rlm(z:Sem Value)(f:TypeId->Addr->Nat->Nat->Sem Value)(v:Value):
  ReflectliteValue.method z f #[v]=(do match <- ReflectliteValue.parts v with | none=>z | some (t,a,fl)=>f t a fl (fl % 32)):=rfl
theorem partsP_run(a:Addr)(w:World):(ReflectliteValue.parts (.agg #[hP,.pointer (some a),.int .u64 150])).run Tryz.prog w=.ok (some (112,a,150)) w:=by kernel_rfl
theorem isNil_run(a p:Addr)(W:World)(ha:W.cell? a=some (.pointer (some p))):
  (ReflectliteValue.method (ReflectliteValue.valueError "reflectlite.Value.IsNil" 0) ReflectliteValue.isNil #[.agg #[hP,.pointer (some a),.int .u64 150]]).run Tryz.prog W=.ok (.bool false) W:=by
 rw [rlm];simp only [Sem.run_bind,partsP_run,Result.andThen];simp [ReflectliteValue.isNil,loadVar,isAgg,underlying,Tryz.underlying112,ha,Result.andThen]
theorem elemOfP_run(w:World):(Rtype.elem? 112).run Tryz.prog w=.ok (some 40) w:=by kernel_rfl
theorem mkC_run(p:Addr)(w:World):(ReflectliteValue.mk 40 p ReflectliteValue.flagAddr).run Tryz.prog w=.ok (.agg #[hC,.pointer (some p),.int .u64 386]) w:=by kernel_rfl
theorem elemV_run(a p:Addr)(W:World)(ha:W.cell? a=some (.pointer (some p))):
  (ReflectliteValue.method (ReflectliteValue.valueError "reflectlite.Value.Elem" 0) ReflectliteValue.elem #[.agg #[hP,.pointer (some a),.int .u64 150]]).run Tryz.prog W
   = .ok (.agg #[hC,.pointer (some p),.int .u64 386]) W:=by
 rw [rlm];simp only [Sem.run_bind,partsP_run,Result.andThen];simp [ReflectliteValue.elem,loadVar,isAgg,underlying,Tryz.underlying112,ha,Result.andThen,elemOfP_run,mkC_run]
theorem rls(v x:Value):ReflectliteValue.set #[v,x]=(do
  let (some (dst,a,fl),some (src,b,_)):=(<- ReflectliteValue.parts v,<- ReflectliteValue.parts x)
   | unsupported (.noEntry "extern/(internal/reflectlite.Value).Set.zeroValue")
  if fl/ReflectliteValue.flagAddr % 2==0 then unsupported (.noEntry "extern/(internal/reflectlite.Value).Set.unaddressable")
  let val <- loadVar src b
  if <- Rtype.directlyAssignable dst src then storeVar dst a val
  else if <- Rtype.implements dst src then
   if (<- Rtype.kind src)==20 then
    match val with
    | .nilIface=>unsupported (.noEntry "extern/reflectlite: a nil value of one interface type handed on as a value of another")
    | _=>storeVar dst a val
   else storeVar dst a (.iface src val)
  else panicString ("reflectlite.Set: value of type "++(<- Rtype.spelt src) ++ " is not assignable to type "++(<- Rtype.spelt dst))
  pure (.tuple #[])):=rfl
theorem partsCa_run(a:Addr)(w:World):(ReflectliteValue.parts (.agg #[hC,.pointer (some a),.int .u64 386])).run Tryz.prog w=.ok (some (40,a,386)) w:=by kernel_rfl
theorem partsC_run(a:Addr)(w:World):(ReflectliteValue.parts (.agg #[hC,.pointer (some a),.int .u64 130])).run Tryz.prog w=.ok (some (40,a,130)) w:=by kernel_rfl
theorem directC_run(w:World):(Rtype.directlyAssignable 40 40).run Tryz.prog w=.ok true w:=by kernel_rfl
theorem set_run(ta b:Addr)(c:Int)(old:Value)(W:World)(hb:W.cell? b=some (.int .i64 c))(ht:W.cell? ta=some old)(hf:W.frozen? ta=false):
  (ReflectliteValue.set #[.agg #[hC,.pointer (some ta),.int .u64 386],.agg #[hC,.pointer (some b),.int .u64 130]]).run Tryz.prog W
   = .ok (.tuple #[]) (W.setCell ta (.int .i64 c)):=by
 rw [rls];simp only [Sem.run_bind,partsCa_run,partsC_run,Result.andThen];simp [ReflectliteValue.flagAddr,loadVar,isAgg,underlying,Tryz.underlying40,hb,Result.andThen,directC_run,storeVar,Value.cells,storeCells,Addr.add];rw [run_store Tryz.prog W ta _ _ (by rfl)]
 simp [ht,hf]
theorem two_arg{I:Imm}{vs:Array Value}{x y:Value}(h:RVs I vs [.v x,.v y]):vs = #[x,y]:=by
 have h0:=(h.rv 0 _ rfl).of_v;have h1:=(h.rv 1 _ rfl).of_v;have hl:vs.size=2:=by simpa using h.len
 apply Array.ext
 ·simpa using hl
 ·intro i q1 q2
  have:i=0∨i=1:=by simp at q2;omega
  rcases this with rfl | rfl
  ·have:vs.getD 0 undef=vs[0]:=by simp [Array.getD,hl]
   rw [<- this,h0];rfl
  ·have:vs.getD 1 undef=vs[1]:=by simp [Array.getD,hl]
   rw [<- this,h1];rfl
theorem agg_vals{I:Imm}:∀ {us:List Value} {x:Value},RV I x (.agg (us.map .v))->x=.agg us.toArray:=by
 intro us x h;generalize hu:us.map AV.v=vs at h
 cases h with
 | agg cs us' hl hr =>
  subst hu
  congr 1
  apply Array.ext
  ·simpa using hl
  ·intro i q1 q2
   have hi:i<us.length:=by simpa using q2
   have:=(hr i (.v us[i]) (by simp [hi])).of_v
   simp [Array.getD,q1] at this;simpa using this
theorem agg_vals1{I:Imm}{vs:Array Value}{us:List Value}(h:RVs I vs [.agg (us.map .v)]):vs = #[.agg us.toArray]:=by
 have h0:=agg_vals (h.rv 0 _ rfl);have hl:vs.size=1:=by simpa using h.len
 apply Array.ext
 ·simpa using hl
 ·intro i q1 q2
  have:i=0:=by simp at q2;omega
  subst this;have:vs.getD 0 undef=vs[0]:=by simp [Array.getD,hl]
  rw [<- this,h0];rfl
theorem agg_vals2{I:Imm}{vs:Array Value}{us ws:List Value}(h:RVs I vs [.agg (us.map .v),.agg (ws.map .v)]):vs = #[.agg us.toArray,.agg ws.toArray]:=by
 have h0:=agg_vals (h.rv 0 _ rfl);have h1:=agg_vals (h.rv 1 _ rfl);have hl:vs.size=2:=by simpa using h.len
 apply Array.ext
 ·simpa using hl
 ·intro i q1 q2
  have:i=0∨i=1:=by simp at q2;omega
  rcases this with rfl | rfl
  ·have:vs.getD 0 undef=vs[0]:=by simp [Array.getD,hl]
   rw [<- this,h0];rfl
  ·have:vs.getD 1 undef=vs[1]:=by simp [Array.getD,hl]
   rw [<- this,h1];rfl
theorem RV.agg_of{I:Imm}(us:List Value):RV I (.agg us.toArray) (.agg (us.map .v)):=by
 refine .agg _ _ (by simp) fun j u hj=>?_
 obtain ⟨x,hx,rfl⟩:=List.getElem?_map ..▸hj |> Option.map_eq_some_iff.1;have hlt:=(List.getElem?_eq_some_iff.1 hx).1;have:us.toArray.getD j undef=x:=by
  obtain ⟨_,h2⟩:=List.getElem?_eq_some_iff.1 hx;simp [Array.getD,hlt,h2]
 rw [this];exact .v x
theorem cell_at{I:Imm}{s:Hp}{w:World}(hs:Rel I s w){b:Nat}{e:TypeId}{x:Value}{n:Nat}(hm:(b,AObj.cells e [.v x] n)∈s):w.cell? ⟨b,0,none⟩=some x:=by
 obtain ⟨c,hc⟩:=hs.obj _ _ hm;obtain ⟨y,h1,h2⟩:=hc.cell? (j:=0) (u:=.v x) rfl;rw [h2.of_v] at h1;exact h1
theorem frozen_at{I:Imm}{s:Hp}{w:World}(hs:Rel I s w){b:Nat}{e:TypeId}{us:List AV}{n:Nat}(hm:(b,AObj.cells e us n)∈s)(o:Nat):w.frozen? ⟨b,o,none⟩=false:=by
 obtain ⟨c,hc⟩:=hs.obj _ _ hm;have:=hc.block;simp [World.frozen?,this]
abbrev vP(q:Nat):AV:=.agg ([hP,.pointer (some ⟨q,0,none⟩),.int .u64 150].map .v)
abbrev vCn(q:Nat):AV:=.agg ([hC,.pointer (some ⟨q,0,none⟩),.int .u64 130].map .v)
abbrev vCa(a:Addr):AV:=.agg ([hC,.pointer (some a),.int .u64 386].map .v)
theorem valueOfP_av(a:Addr)(s:Hp)(K:AV->Hp->Prop)(hk:∀ q,q∉s.keys->K (vP q) ((q,.cells 112 [.v (.pointer (some a))] 1)::s)):Meets Tryz.prog 86 [.v (.iface 112 (.pointer (some a)))] s K:=by
 refine Meets.extern Tryz.func86 (by kernel_rfl) (by kernel_rfl) (by kernel_rfl) (by kernel_rfl:_=some fun args=>ReflectliteValue.unpack (args.getD 0 (.tuple #[]))) ?_
 intro I w vs hs ha;rw [one_arg ha];refine ⟨_,_,_,_,I,valueOfP_run a w,hk w.heap.size hs.fresh_key,hs.alloc _ _ ⟨#[.pointer (some a)],heap_alloc_new w _,rfl,by simp,fun j u hj=>?_⟩,RV.agg_of _,Ext.alloc I s w _ _⟩
 match j with
 | 0=>simp at hj;subst hj;exact ⟨_,rfl,.v _⟩
 | j+1=>simp at hj
theorem valueOfC_av(c:Int)(s:Hp)(K:AV->Hp->Prop)(hk:∀ q,q∉s.keys->K (vCn q) ((q,.cells 40 [.v (.int .i64 c)] 1)::s)):Meets Tryz.prog 86 [.v (.iface 40 (.int .i64 c))] s K:=by
 refine Meets.extern Tryz.func86 (by kernel_rfl) (by kernel_rfl) (by kernel_rfl) (by kernel_rfl:_=some fun args=>ReflectliteValue.unpack (args.getD 0 (.tuple #[]))) ?_
 intro I w vs hs ha;rw [one_arg ha];refine ⟨_,_,_,_,I,valueOfC_run c w,hk w.heap.size hs.fresh_key,hs.alloc _ _ ⟨#[.int .i64 c],heap_alloc_new w _,rfl,by simp,fun j u hj=>?_⟩,RV.agg_of _,Ext.alloc I s w _ _⟩
 match j with
 | 0=>simp at hj;subst hj;exact ⟨_,rfl,.v _⟩
 | j+1=>simp at hj
theorem pure1{f:FuncId}{fn:Func}{E:Array Value->Sem Value}{us:List Value}{y:Value}(hf:Tryz.prog.funcs[f]? = some fn)(hname:(fn.name == "runtime.NumGoroutine")=false)(hb:fn.body.isNone=true)(hn:Extern.findNext fn=none)(he:Extern.find fn=some E)(h:∀ w,(E #[.agg us.toArray]).run Tryz.prog w=.ok y w)(s:Hp)(K:AV->Hp->Prop)(hk:K (.v y) s):Meets Tryz.prog f [.agg (us.map .v)] s K:=by
 refine Meets.extern hf hname hb hn he ?_
 intro I w vs hs ha;rw [agg_vals1 ha];exact ⟨_,w,_,s,I,h w,hk,hs,.v _,Ext.refl _ _ _⟩
theorem pureV{f:FuncId}{fn:Func}{E:Array Value->Sem Value}{x y:Value}(hf:Tryz.prog.funcs[f]? = some fn)(hname:(fn.name == "runtime.NumGoroutine")=false)(hb:fn.body.isNone=true)(hn:Extern.findNext fn=none)(he:Extern.find fn=some E)(h:∀ w,(E #[x]).run Tryz.prog w=.ok y w)(s:Hp)(K:AV->Hp->Prop)(hk:K (.v y) s):Meets Tryz.prog f [.v x] s K:=by
 refine Meets.extern hf hname hb hn he ?_
 intro I w vs hs ha;rw [one_arg ha];exact ⟨_,w,_,s,I,h w,hk,hs,.v _,Ext.refl _ _ _⟩
theorem pureVV{f:FuncId}{fn:Func}{E:Array Value->Sem Value}{x z y:Value}(hf:Tryz.prog.funcs[f]? = some fn)(hname:(fn.name == "runtime.NumGoroutine")=false)(hb:fn.body.isNone=true)(hn:Extern.findNext fn=none)(he:Extern.find fn=some E)(h:∀ w,(E #[x,z]).run Tryz.prog w=.ok y w)(s:Hp)(K:AV->Hp->Prop)(hk:K (.v y) s):Meets Tryz.prog f [.v x,.v z] s K:=by
 refine Meets.extern hf hname hb hn he ?_
 intro I w vs hs ha;rw [two_arg ha];exact ⟨_,w,_,s,I,h w,hk,hs,.v _,Ext.refl _ _ _⟩
theorem typeP_av(q:Nat)(s:Hp)(K:AV->Hp->Prop)(hk:K (.v (rtv hP)) s):Meets Tryz.prog 87 [vP q] s K:=
 pure1 (us:=[hP,.pointer (some ⟨q,0,none⟩),.int .u64 150]) Tryz.func87 (by kernel_rfl) (by kernel_rfl) (by kernel_rfl) (by kernel_rfl:_=some (ReflectliteValue.methodAny (ReflectliteValue.valueError "reflectlite.Value.Type" 0) (fun t _ _ _=>ReflectliteType.toType t))) (typeP_run _) s K hk
theorem kindP_av(s:Hp)(K:AV->Hp->Prop)(hk:K (.v (.int .u8 22)) s):Meets Tryz.prog 140 [.v hP] s K:=
 pureV Tryz.func140 (by kernel_rfl) (by kernel_rfl) (by kernel_rfl) (by kernel_rfl:_=some (ReflectliteType.abiMethod fun t=>do pure (Value.int IntKind.u8 (<- Rtype.kind t)))) kindP_run s K hk
theorem kindC_av(s:Hp)(K:AV->Hp->Prop)(hk:K (.v (.int .u8 2)) s):Meets Tryz.prog 140 [.v hC] s K:=
 pureV Tryz.func140 (by kernel_rfl) (by kernel_rfl) (by kernel_rfl) (by kernel_rfl:_=some (ReflectliteType.abiMethod fun t=>do pure (Value.int IntKind.u8 (<- Rtype.kind t)))) kindC_run s K hk
theorem elemT_av(s:Hp)(K:AV->Hp->Prop)(hk:K (.v (rtv hC)) s):Meets Tryz.prog 152 [.v (.agg #[hP])] s K:=
 pureV Tryz.func152 (by kernel_rfl) (by kernel_rfl) (by kernel_rfl) (by kernel_rfl:_=some (ReflectliteType.method ReflectliteType.elem)) elemT_run s K hk
theorem implC_av(s:Hp)(K:AV->Hp->Prop)(hk:K (.v (.bool true)) s):Meets Tryz.prog 153 [.v (.agg #[hC]),.v (rtv (hdl 27))] s K:=
 pureVV Tryz.func153 (by kernel_rfl) (by kernel_rfl) (by kernel_rfl) (by kernel_rfl:_=some (ReflectliteType.relation "Implements" ReflectliteType.implements_)) implC_run s K hk
theorem assnC_av(s:Hp)(K:AV->Hp->Prop)(hk:K (.v (.bool true)) s):Meets Tryz.prog 150 [.v (.agg #[hC]),.v (rtv hC)] s K:=
 pureVV Tryz.func150 (by kernel_rfl) (by kernel_rfl) (by kernel_rfl) (by kernel_rfl:_=some (ReflectliteType.relation "AssignableTo" ReflectliteType.assignableTo)) assnC_run s K hk
theorem assnF_av(s:Hp)(K:AV->Hp->Prop)(hk:K (.v (.bool false)) s):Meets Tryz.prog 150 [.v (.agg #[hdl 155]),.v (rtv hC)] s K:=
 pureVV Tryz.func150 (by kernel_rfl) (by kernel_rfl) (by kernel_rfl) (by kernel_rfl:_=some (ReflectliteType.relation "AssignableTo" ReflectliteType.assignableTo)) assnF_run s K hk
theorem tyofC_av(v:Value)(s:Hp)(K:AV->Hp->Prop)(hk:K (.v (rtv hC)) s):Meets Tryz.prog 100 [.v (.iface 40 v)] s K:=
 pureV Tryz.func100 (by kernel_rfl) (by kernel_rfl) (by kernel_rfl) (by kernel_rfl:_=some ReflectliteType.typeOf) (tyofC_run v) s K hk
theorem tyofF_av(u:AV)(s:Hp)(K:AV->Hp->Prop)(hk:K (.v (rtv (hdl 155))) s):Meets Tryz.prog 100 [.ifc 155 u] s K:=by
 refine Meets.extern Tryz.func100 (by kernel_rfl) (by kernel_rfl) (by kernel_rfl) (by kernel_rfl:_=some ReflectliteType.typeOf) ?_
 intro I w vs hs ha;obtain ⟨x,hx⟩:∃ x,vs = #[.iface 155 x]:=by
  have h0:=ha.rv 0 _ rfl;have hl:vs.size=1:=by simpa using ha.len
  generalize hv:vs.getD 0 undef=v at h0
  cases h0 with
  | ifc t x u hr =>
   refine ⟨x,?_⟩;apply Array.ext
   ·simpa using hl
   ·intro i q1 q2
    have:i=0:=by simp at q2;omega
    subst this;have:vs.getD 0 undef=vs[0]:=by simp [Array.getD,hl]
    rw [<- this,hv];rfl
 rw [hx];exact ⟨_,w,_,s,I,tyofF_run x w,hk,hs,.v _,Ext.refl _ _ _⟩
theorem isNil_av(q n:Nat)(a:Addr)(s:Hp)(hm:(q,AObj.cells 112 [.v (.pointer (some a))] n)∈s)(K:AV->Hp->Prop)(hk:K (.v (.bool false)) s):Meets Tryz.prog 88 [vP q] s K:=by
 refine Meets.extern Tryz.func88 (by kernel_rfl) (by kernel_rfl) (by kernel_rfl) (by kernel_rfl:_=some (ReflectliteValue.method (ReflectliteValue.valueError "reflectlite.Value.IsNil" 0) ReflectliteValue.isNil)) ?_
 intro I w vs hs ha;rw [agg_vals1 (us:=[hP,.pointer (some ⟨q,0,none⟩),.int .u64 150]) ha];exact ⟨_,w,_,s,I,isNil_run _ a w (cell_at hs hm),hk,hs,.v _,Ext.refl _ _ _⟩
theorem elemV_av(q n:Nat)(a:Addr)(s:Hp)(hm:(q,AObj.cells 112 [.v (.pointer (some a))] n)∈s)(K:AV->Hp->Prop)(hk:K (vCa a) s):Meets Tryz.prog 103 [vP q] s K:=by
 refine Meets.extern Tryz.func103 (by kernel_rfl) (by kernel_rfl) (by kernel_rfl) (by kernel_rfl:_=some (ReflectliteValue.method (ReflectliteValue.valueError "reflectlite.Value.Elem" 0) ReflectliteValue.elem)) ?_
 intro I w vs hs ha;rw [agg_vals1 (us:=[hP,.pointer (some ⟨q,0,none⟩),.int .u64 150]) ha];exact ⟨_,w,_,s,I,elemV_run _ a w (cell_at hs hm),hk,hs,RV.agg_of [hC,.pointer (some a),.int .u64 386],Ext.refl _ _ _⟩
theorem set_av(b q:Nat)(c:Int)(old:AV)(s:Hp)(hb:(b,AObj.cells 40 [old] 1)∈s)(hq:(q,AObj.cells 40 [.v (.int .i64 c)] 1)∈s)(K:AV->Hp->Prop)(hk:K (.v (.tuple #[])) (s.set b (.cells 40 [.v (.int .i64 c)] 1))):
  Meets Tryz.prog 104 [vCa ⟨b,0,none⟩,vCn q] s K:=by
 refine Meets.extern Tryz.func104 (by kernel_rfl) (by kernel_rfl) (by kernel_rfl) (by kernel_rfl:_=some ReflectliteValue.set) ?_
 intro I w vs hs ha;rw [agg_vals2 (us:=[hC,.pointer (some ⟨b,0,none⟩),.int .u64 386]) (ws:=[hC,.pointer (some ⟨q,0,none⟩),.int .u64 130]) ha];have hkey:b∈s.keys:=List.mem_map.2 ⟨_,hb,rfl⟩;obtain ⟨cb,hcb⟩:=hs.obj _ _ hb;have hsz:cb.size=1:=hcb.full;obtain ⟨ov,hov,_⟩:=hcb.cell? (j:=0) (u:=old) rfl;have hrow:(w.setCell ⟨b,0,none⟩ (.int .i64 c)).heap[b]? = some (.cells #[.int .i64 c] 40 (0,0)):=by
  have hbl:=hcb.block;have hlt:b<w.heap.size:=(hs.obj _ _ hb).lt;have:cb.setIfInBounds 0 (.int .i64 c) = #[.int .i64 c]:=by
   apply Array.ext
   ·simp [hsz]
   ·intro i q1 q2
    have:i=0:=by simp at q2;omega
    subst this;simp
  have hx:(w.setCell ⟨b,0,none⟩ (.int .i64 c)).heap[b]? = (w.heap[b]?).map (fun | .cells c' t frozen=>.cells (c'.setIfInBounds 0 (.int .i64 c)) t frozen | o=>o):=by
   simp only [World.setCell,Array.getElem?_modify,if_true]
   congr 1
  rw [hx,hbl];simp only [Option.map_some,this]
 have hoth:∀ k,k≠b->(w.setCell ⟨b,0,none⟩ (.int .i64 c)).heap[k]? = w.heap[k]?:=fun k hk=>by
  simp only [World.setCell]
  split <;> simp [Array.getElem?_setIfInBounds,Array.getElem?_modify,Ne.symm hk,hk]
 refine ⟨_,_,_,_,I,set_run ⟨b,0,none⟩ ⟨q,0,none⟩ c ov w (cell_at hs hq) hov (frozen_at hs hb 0),hk,hs.turn hkey _ ⟨#[.int .i64 c],hrow,rfl,by simp,fun j u hj=>?_⟩ hoth,.v _,Ext.turn I s hkey _ ?_ ?_ ?_ ?_ hoth⟩
 ·match j with
  | 0=>simp at hj;subst hj;exact ⟨_,rfl,.v _⟩
  | j+1=>simp at hj
 all_goals (simp [World.setCell])
set_option maxHeartbeats 0
theorem gnd_out{I:Imm}{s:Hp}{w:World}(h:Rel I s w){a:Addr}{x:Value}(ha:(a,x)∈gndL):a.block∉s.keys:=fun hk=>by
 have h1:=h.free _ hk;have h2:=h.gnd a x ha;unfold Imm.cell at h2;rw [h1] at h2
 split at h2 <;> simp at h2
theorem AWgn{P:Program}{ro:Option Nat}{n:Nat}{c:Code}{e:Env}{s:Hp}{Q:AX->Env->Hp->Prop}(h:(∀ a x,(a,x)∈gndL->a.block∉s.keys)->AW ro P n c e s Q):AW ro P n c e s Q:=by
 unfold AW at h ⊢;intro ds I w a hea hsr hir;exact h (fun a x ha=>gnd_out hsr ha) ds I w a hea hsr hir
inductive ErrC (c:Int):Nat->AV->Prop where
 | code:ErrC c 0 (.v (.iface 40 (.int .i64 c)))
 | wrap (op:ByteArray) (at_:Int) (d:Nat) (e:AV) (h:ErrC c d e):ErrC c (d+1) (.ifc 155 (.agg [.v (.string op),.v (.int .i64 at_),e]))
theorem ErrC.one{c:Int}{d:Nat}{e:AV}(h:ErrC c d e):e.one=true:=by cases h <;> rfl
theorem as_av(c:Int)(d:Nat)(x:AV)(h:ErrC c d x)(b q:Nat)(old:AV)(hbq:b≠q):
  Meets Tryz.prog 89 [x,.v (.iface 112 (.pointer (some ⟨b,0,none⟩))),vP q,.v (rtv hC)] [(b,.cells 40 [old] 1),(q,.cells 112 [.v (.pointer (some ⟨b,0,none⟩))] 1)]
   (fun r t=>r=.v (.bool true)/\(b,.cells 40 [.v (.int .i64 c)] 1)∈t):=by
 obtain ⟨K',hK'⟩:∃ K':AV->Hp->Prop,K'=(fun r t=>r=.v (.bool true)/\(b,AObj.cells 40 [.v (.int .i64 c)] 1)∈t):=⟨_,rfl⟩
 rw [<- hK'];refine Meets.body Tryz.func89 rfl rfl (by simp [Tryz.ntmps89]) ?_
 repeat' (first | refine AW.seq ?_ | ((first | refine AW.reg (by rfl) ?_ | refine AW.skip ?_ | refine AW.ret ?_ | refine AW.exit ?_);simp only [undef,Y5,aop,ev,ofValue,Zd,Zv,Yh,List.getD_cons_zero,List.getD_cons_succ,cells_agg,List.map_cons,List.map_nil,List.length_cons,List.length_nil,List.all_cons,List.all_nil,one_v,Value.oneCell',Bool.and_self,true_and,and_true,Nat.reduceAdd,Nat.zero_add,abox,ne_eq,Zl,Zu,and_imp,Tryz.results89]) | refine AW.block ?_ | with_reducible refine AW.condT rfl ?_ | with_reducible refine AW.condF rfl ?_)
 intro l hl1 hl2
 skip
 repeat' (first | refine AW.seq ?_ | refine AW.block ?_ | with_reducible refine AW.condT rfl ?_ | with_reducible refine AW.condF rfl ?_)
 obtain ⟨H,hH⟩:∃ H:Nat->Env->Hp->Prop,H=fun mm e st=>∃ x,ErrC c mm x/\st=[(l,.cells 162 [.v hP,.v (.pointer (some ⟨q,0,none⟩)),.v (.int .u64 150)] 3),(b,.cells 40 [old] 1),(q,.cells 112 [.v (.pointer (some ⟨b,0,none⟩))] 1)]/\e 0=x/\e 1=.v (.iface 112 (.pointer (some ⟨b,0,none⟩)))/\e 3=.v (rtv hC)/\e 6=.v (.pointer (some ⟨l,0,none⟩)):=⟨_,rfl⟩
 refine (AW.loop H d (by rw [hH];exact ⟨x,h,rfl,rfl,rfl,rfl,rfl⟩) ?_)
 intro mm e st hst;rw [hH] at hst;obtain ⟨y,hy,rfl,e0,e1,e3,e6⟩:=hst
 clear h x
 cases hy with
 | code =>
  repeat' (first | refine AW.seq ?_ | ((first | refine AW.reg (by rfl) ?_ | refine AW.skip ?_ | refine AW.ret ?_ | refine AW.exit ?_);simp only [Y5,aop,Yv,ev,Zd,Zv,Za,Nat.reduceEqDiff,↓reduceIte,List.map_cons,List.map_nil,List.nil_append,List.append_nil,Xd,e0,e3]) | refine AW.block ?_ | with_reducible refine AW.condT rfl ?_ | with_reducible refine AW.condF rfl ?_)
  refine tyofC_av _ _ _ ?_
  try simp only []
  repeat' (first | refine AW.seq ?_ | refine AW.block ?_ | with_reducible refine AW.condT rfl ?_ | with_reducible refine AW.condF rfl ?_)
  refine ⟨_,_,mAssn hC,?_⟩;refine assnC_av _ _ ?_
  skip
  repeat' (first | refine AW.seq ?_ | ((first | refine AW.reg (by rfl) ?_ | refine AW.skip ?_ | refine AW.ret ?_ | refine AW.exit ?_);simp only [Y5,aop,Yv,ev,Zd,Zv,Za,Nat.reduceEqDiff,↓reduceIte,List.map_cons,List.map_nil,List.length_cons,List.length_nil,List.take_succ_cons,List.drop_zero,List.take_nil,List.nil_append,List.append_nil,true_and,Nat.reduceAdd,Nat.zero_add,Nat.le_refl,Yu,Yk,X0,Zj,reduceCtorEq,agg_162,e0,e6]) | refine AW.block ?_ | with_reducible refine AW.condT rfl ?_ | with_reducible refine AW.condF rfl ?_)
  refine elemV_av q 1 ⟨b,0,none⟩ _ (by simp) _ ?_
  skip
  repeat' (first | refine AW.seq ?_ | refine AW.block ?_ | with_reducible refine AW.condT rfl ?_ | with_reducible refine AW.condF rfl ?_)
  refine valueOfC_av c _ _ ?_
  intro nb hnb
  skip
  repeat' (first | refine AW.seq ?_ | refine AW.block ?_ | with_reducible refine AW.condT rfl ?_ | with_reducible refine AW.condF rfl ?_)
  refine set_av b nb c old _ (by simp) (by simp) _ ?_
  try simp only [↓reduceIte,Zl,Yp,Y7]
  repeat' (first | refine AW.seq ?_ | ((first | refine AW.reg (by rfl) ?_ | refine AW.skip ?_ | refine AW.ret ?_ | refine AW.exit ?_);simp only [Y5,aop,ev,ofValue,Zd,Zv,Xm,APost,ares,Y9,Za,↓reduceIte]) | refine AW.block ?_ | with_reducible refine AW.condT rfl ?_ | with_reducible refine AW.condF rfl ?_)
  rw [hK'];exact ⟨rfl,by simp⟩
 | wrap op at_ d x hx =>
  have h1:=hx.one;have fin:∀ e:Env,e 0=x->e 1=.v (.iface 112 (.pointer (some ⟨b,0,none⟩)))->e 3=.v (rtv hC)->e 6=.v (.pointer (some ⟨l,0,none⟩))->LEnd H (d+1) e [(l,.cells 162 [.v hP,.v (.pointer (some ⟨q,0,none⟩)),.v (.int .u64 150)] 3),(b,.cells 40 [old] 1),(q,.cells 112 [.v (.pointer (some ⟨b,0,none⟩))] 1)]:=by
   intro e g0 g1 g3 g6;rw [hH];exact ⟨d,_,by omega,fun p hp=>hp,by simp [Hp.keys,hl1,hl2,hbq],x,hx,rfl,g0,g1,g3,g6⟩
  cases hx with
  | code =>
   repeat' (first | refine AW.seq ?_ | ((first | refine AW.reg (by rfl) ?_ | refine AW.skip ?_ | refine AW.ret ?_ | refine AW.exit ?_);simp only [Y5,aop,Yv,ev,Zd,Zv,Za,Nat.reduceEqDiff,↓reduceIte,List.map_cons,List.map_nil,List.nil_append,List.append_nil,Nat.zero_add,Xd,e0,e3]) | refine AW.block ?_ | with_reducible refine AW.condT rfl ?_ | with_reducible refine AW.condF rfl ?_)
   refine tyofF_av _ _ _ ?_
   try simp only []
   repeat' (first | refine AW.seq ?_ | refine AW.block ?_ | with_reducible refine AW.condT rfl ?_ | with_reducible refine AW.condF rfl ?_)
   refine ⟨_,_,mAssn _,?_⟩;refine assnF_av _ _ ?_
   skip
   repeat' (first | refine AW.seq ?_ | ((first | refine AW.reg (by rfl) ?_ | refine AW.skip ?_ | refine AW.ret ?_ | refine AW.exit ?_);simp only [undef,Y5,aop,Yv,ev,ofValue,Zd,Zv,Za,Yx,Nat.reduceEqDiff,↓reduceIte,List.map_nil,List.getElem?_cons_zero,List.getElem?_cons_succ,true_and,apick,W4,Wc,Xd,Wb,Option.bind_some,reduceCtorEq,Bool.false_eq_true,iface_189,zero_189,impl_189_155,iface_192,zero_192,impl_192_155,meth_155_Unwrap,e0]) | refine AW.block ?_ | with_reducible refine AW.condT rfl ?_ | with_reducible refine AW.condF rfl ?_)
   refine unwrap op at_ _ h1 _ _ ?_
   skip
   repeat' (first | refine AW.seq ?_ | ((first | refine AW.reg (by rfl) ?_ | refine AW.skip ?_ | refine AW.ret ?_ | refine AW.exit ?_);simp only [Y5,aop,ev,ofValue,Zd,Zv,Xm,Za,↓reduceIte,X5,anil,W0,Xj]) | refine AW.block ?_ | with_reducible refine AW.condT rfl ?_ | with_reducible refine AW.condF rfl ?_)
   exact fin _ (by simp [Za]) (by simp [Za,e1]) (by simp [Za,e3]) (by simp [Za,e6])
  | wrap op2 at2 d2 x2 hx2 =>
   repeat' (first | refine AW.seq ?_ | ((first | refine AW.reg (by rfl) ?_ | refine AW.skip ?_ | refine AW.ret ?_ | refine AW.exit ?_);simp only [Y5,aop,Yv,ev,Zd,Zv,Za,Nat.reduceEqDiff,↓reduceIte,List.map_cons,List.map_nil,List.nil_append,List.append_nil,Xd,e0,e3]) | refine AW.block ?_ | with_reducible refine AW.condT rfl ?_ | with_reducible refine AW.condF rfl ?_)
   refine tyofF_av _ _ _ ?_
   try simp only []
   repeat' (first | refine AW.seq ?_ | refine AW.block ?_ | with_reducible refine AW.condT rfl ?_ | with_reducible refine AW.condF rfl ?_)
   refine ⟨_,_,mAssn _,?_⟩;refine assnF_av _ _ ?_
   skip
   repeat' (first | refine AW.seq ?_ | ((first | refine AW.reg (by rfl) ?_ | refine AW.skip ?_ | refine AW.ret ?_ | refine AW.exit ?_);simp only [undef,Y5,aop,Yv,ev,ofValue,Zd,Zv,Za,Yx,Nat.reduceEqDiff,↓reduceIte,List.map_nil,List.getElem?_cons_zero,List.getElem?_cons_succ,true_and,apick,W4,Wc,Xd,Wb,Option.bind_some,reduceCtorEq,Bool.false_eq_true,iface_189,zero_189,impl_189_155,iface_192,zero_192,impl_192_155,meth_155_Unwrap,e0]) | refine AW.block ?_ | with_reducible refine AW.condT rfl ?_ | with_reducible refine AW.condF rfl ?_)
   refine unwrap op at_ _ h1 _ _ ?_
   skip
   repeat' (first | refine AW.seq ?_ | ((first | refine AW.reg (by rfl) ?_ | refine AW.skip ?_ | refine AW.ret ?_ | refine AW.exit ?_);simp only [Y5,aop,ev,ofValue,Zd,Zv,Xm,Za,↓reduceIte,X5,anil,W0,Xj]) | refine AW.block ?_ | with_reducible refine AW.condT rfl ?_ | with_reducible refine AW.condF rfl ?_)
   exact fin _ (by simp [Za]) (by simp [Za,e1]) (by simp [Za,e3]) (by simp [Za,e6])
theorem eas_av(c:Int)(d:Nat)(x:AV)(h:ErrC c d x)(b:Nat)(old:AV):
  Meets Tryz.prog 52 [x,.v (.iface 112 (.pointer (some ⟨b,0,none⟩)))] [(b,.cells 40 [old] 1)]
   (fun r t=>r=.v (.bool true)/\(b,.cells 40 [.v (.int .i64 c)] 1)∈t):=by
 obtain ⟨K',hK'⟩:∃ K':AV->Hp->Prop,K'=(fun r t=>r=.v (.bool true)/\(b,AObj.cells 40 [.v (.int .i64 c)] 1)∈t):=⟨_,rfl⟩
 rw [<- hK'];refine Meets.body Tryz.func52 rfl rfl (by simp [Tryz.ntmps52]) ?_
 have h1:=h.one
 cases h with
 | code =>
  repeat' (first | refine AW.seq ?_ | ((first | refine AW.reg (by rfl) ?_ | refine AW.skip ?_ | refine AW.ret ?_ | refine AW.exit ?_);simp only [undef,Y5,aop,Yv,ev,ofValue,Zd,put_none,Zv,Za,Yh,Nat.reduceEqDiff,↓reduceIte,List.getD_cons_zero,List.getD_cons_succ,Value.cells,splice,List.map_cons,List.map_nil,List.length_cons,List.length_nil,List.take_zero,List.nil_append,List.append_nil,Nat.reduceAdd,Nat.zero_add,astore,aalloc,X5,anil,W0,List.size_toArray,Option.map_some,Zj,Y7,reduceCtorEq,Xj,iface_20,zero_162,agg_162,Tryz.results52]) | refine AW.block ?_ | with_reducible refine AW.condT rfl ?_ | with_reducible refine AW.condF rfl ?_)
  refine valueOfP_av _ _ _ ?_
  intro q hq
  try simp only [cells_agg,List.map_cons,List.map_nil,List.length_cons,List.length_nil,List.drop_succ_cons,List.drop_nil,List.append_nil,List.all_cons,List.all_nil,one_v,Value.oneCell',Bool.and_self,true_and,and_true,Nat.reduceAdd,Nat.zero_add,Nat.le_refl,ne_eq,Zl,Zu,Yp,and_imp,Y7]
  repeat' (first | refine AW.seq ?_ | refine AW.block ?_ | with_reducible refine AW.condT rfl ?_ | with_reducible refine AW.condF rfl ?_)
  intro l hl1 hl2;refine AWgn fun hg=>?_
  have g0:=hg ⟨0,0,none⟩ _ (List.mem_singleton.2 rfl);have hqb:¬ q=b:=fun h=>hq (by simp [Hp.keys,h])
  have hql:¬ q=l:=fun h=>hl1 h.symm
  have hbl:¬ b=l:=fun h=>hl2 h.symm
  have g1:¬ 0=l/\¬ 0=q/\¬ 0=b:=by simpa [Hp.keys,hql,hbl] using g0
  have gl:¬ l=0:=fun h=>g1.1 h.symm
  have gq:¬ q=0:=fun h=>g1.2.1 h.symm
  have gb:¬ b=0:=fun h=>g1.2.2 h.symm
  try simp only [↓reduceIte,hql,hbl]
  repeat' (first | refine AW.seq ?_ | ((first | refine AW.reg (by rfl) ?_ | refine AW.skip ?_ | refine AW.ret ?_ | refine AW.exit ?_);simp only [Y5,aop,Yv,ev,Zd,Zv,Za,↓reduceIte,List.map_cons,List.map_nil,List.length_cons,List.length_nil,List.take_succ_cons,List.drop_zero,List.take_nil,List.nil_append,List.append_nil,true_and,Nat.reduceAdd,Nat.zero_add,Nat.le_refl,Yu,Yk,X0,Zj,agg_162]) | refine AW.block ?_ | with_reducible refine AW.condT rfl ?_ | with_reducible refine AW.condF rfl ?_)
  refine typeP_av q _ _ ?_
  skip
  repeat' (first | refine AW.seq ?_ | ((first | refine AW.reg (by rfl) ?_ | refine AW.skip ?_ | refine AW.ret ?_ | refine AW.exit ?_);simp only [undef,Y5,aop,Yv,ev,ofValue,Zd,Zv,Za,Yx,Nat.reduceEqDiff,↓reduceIte,List.map_cons,List.map_nil,List.drop_zero,List.nil_append,List.append_nil,List.getElem?_cons_zero,List.getElem?_cons_succ,Nat.zero_add,Yu,Yk,X0,gndL,X5,aint,apick,anil,anils,W0,anilm,aifeq,Xd,ne_eq,Option.bind_some,false_and,Bool.false_eq_true,agg_162,iface_167,issl_167,isptr_167]) | refine AW.block ?_ | with_reducible refine AW.condT rfl ?_ | with_reducible refine AW.condF rfl ?_)
  refine ⟨_,_,mKind hP,?_⟩;refine kindP_av _ _ ?_
  try simp only [↓reduceIte,List.length_cons,List.length_nil,List.take_succ_cons,List.take_nil,true_and,Nat.reduceAdd,Nat.zero_add,Nat.le_refl,Zj,Bool.false_eq_true,Bool.not_true,decide_true]
  repeat' (first | refine AW.seq ?_ | refine AW.block ?_ | with_reducible refine AW.condT rfl ?_ | with_reducible refine AW.condF rfl ?_)
  refine isNil_av q 1 ⟨b,0,none⟩ _ (by simp) _ ?_
  try simp only []
  repeat' (first | refine AW.seq ?_ | ((first | refine AW.reg (by rfl) ?_ | refine AW.skip ?_ | refine AW.ret ?_ | refine AW.exit ?_);simp only [Y5,aop,Yv,ev,Zd,Zv,Za,Nat.reduceEqDiff,↓reduceIte,List.map_nil,Xd]) | refine AW.block ?_ | with_reducible refine AW.condT rfl ?_ | with_reducible refine AW.condF rfl ?_)
  refine ⟨_,_,mElem hP,?_⟩;refine elemT_av _ _ ?_
  skip
  repeat' (first | refine AW.seq ?_ | ((first | refine AW.reg (by rfl) ?_ | refine AW.skip ?_ | refine AW.ret ?_ | refine AW.exit ?_);simp only [undef,Y5,aop,Yv,ev,ofValue,Zd,Zv,Za,Yx,Nat.reduceEqDiff,↓reduceIte,List.map_cons,List.map_nil,List.getElem?_cons_zero,List.getElem?_cons_succ,true_and,Yu,Yk,X0,gndL,X5,aint,apick,anil,anils,W0,aun,anilm,aifeq,Xd,ne_eq,Int.reduceNeg,Option.bind_some,false_and,Bool.false_eq_true,iface_167,issl_167,isptr_167,agg_165]) | refine AW.block ?_ | with_reducible refine AW.condT rfl ?_ | with_reducible refine AW.condF rfl ?_)
  refine ⟨_,_,mKind hC,?_⟩;refine kindC_av _ _ ?_
  try simp only [↓reduceIte,Bool.and_self,true_and,Int.reduceNeg,Int.reduceEq,Option.map_some,Zj,Zl,hp_get_out,Bool.not_false,decide_false,gl,gq,gb,List.find?_cons,beq_self_eq_true,Option.isNone_none,Bool.and_self]
  repeat' (first | refine AW.seq ?_ | refine AW.block ?_ | with_reducible refine AW.condT rfl ?_ | with_reducible refine AW.condF rfl ?_)
  refine ⟨_,_,mImpl hC,?_⟩;refine implC_av _ _ ?_
  try simp only [Bool.not_true]
  repeat' (first | refine AW.seq ?_ | ((first | refine AW.reg (by rfl) ?_ | refine AW.skip ?_ | refine AW.ret ?_ | refine AW.exit ?_);simp only [undef,Y5,aop,Yv,ev,Zd,Zv,Za,Yh,Nat.reduceEqDiff,↓reduceIte,List.getD_cons_zero,List.getD_cons_succ,List.map_cons,List.map_nil,List.length_cons,List.length_nil,List.take_succ_cons,List.drop_zero,List.take_nil,List.nil_append,List.append_nil,true_and,Nat.reduceAdd,Nat.zero_add,Nat.le_refl,Yu,Yk,X0,Zj,reduceCtorEq,agg_162]) | refine AW.block ?_ | with_reducible refine AW.condT rfl ?_ | with_reducible refine AW.condF rfl ?_)
  refine Meets.use [(b,.cells 40 [old] 1),(q,.cells 112 [.v (.pointer (some ⟨b,0,none⟩))] 1)] [(l,.cells 162 [.v hP,.v (.pointer (some ⟨q,0,none⟩)),.v (.int .u64 150)] 3)] (by exact (List.perm_append_comm (l₁:=[_,_]) (l₂:=[_])).trans (List.Perm.cons _ (List.Perm.swap _ _ _))) ?_
  refine (as_av c _ _ .code b q old (Ne.symm hqb)).mono ?_
  rintro r t ⟨rfl,ht⟩
  skip
  repeat' (first | refine AW.seq ?_ | ((first | refine AW.reg (by rfl) ?_ | refine AW.skip ?_ | refine AW.ret ?_ | refine AW.exit ?_);simp only [APost,ares,Y9,Za,↓reduceIte]) | refine AW.block ?_ | with_reducible refine AW.condT rfl ?_ | with_reducible refine AW.condF rfl ?_)
  rw [hK'];exact ⟨rfl,List.mem_append_left _ ht⟩
 | wrap op at_ d x hx =>
  repeat' (first | refine AW.seq ?_ | ((first | refine AW.reg (by rfl) ?_ | refine AW.skip ?_ | refine AW.ret ?_ | refine AW.exit ?_);simp only [undef,Y5,aop,Yv,ev,ofValue,Zd,put_none,Zv,Za,Yh,Nat.reduceEqDiff,↓reduceIte,List.getD_cons_zero,List.getD_cons_succ,Value.cells,splice,List.map_cons,List.map_nil,List.length_cons,List.length_nil,List.take_zero,List.nil_append,List.append_nil,Nat.reduceAdd,Nat.zero_add,astore,aalloc,X5,anil,W0,List.size_toArray,Option.map_some,Zj,Y7,reduceCtorEq,Xj,iface_20,zero_162,agg_162,Tryz.results52]) | refine AW.block ?_ | with_reducible refine AW.condT rfl ?_ | with_reducible refine AW.condF rfl ?_)
  refine valueOfP_av _ _ _ ?_
  intro q hq
  try simp only [cells_agg,List.map_cons,List.map_nil,List.length_cons,List.length_nil,List.drop_succ_cons,List.drop_nil,List.append_nil,List.all_cons,List.all_nil,one_v,Value.oneCell',Bool.and_self,true_and,and_true,Nat.reduceAdd,Nat.zero_add,Nat.le_refl,ne_eq,Zl,Zu,Yp,and_imp,Y7]
  repeat' (first | refine AW.seq ?_ | refine AW.block ?_ | with_reducible refine AW.condT rfl ?_ | with_reducible refine AW.condF rfl ?_)
  intro l hl1 hl2;refine AWgn fun hg=>?_
  have g0:=hg ⟨0,0,none⟩ _ (List.mem_singleton.2 rfl);have hqb:¬ q=b:=fun h=>hq (by simp [Hp.keys,h])
  have hql:¬ q=l:=fun h=>hl1 h.symm
  have hbl:¬ b=l:=fun h=>hl2 h.symm
  have g1:¬ 0=l/\¬ 0=q/\¬ 0=b:=by simpa [Hp.keys,hql,hbl] using g0
  have gl:¬ l=0:=fun h=>g1.1 h.symm
  have gq:¬ q=0:=fun h=>g1.2.1 h.symm
  have gb:¬ b=0:=fun h=>g1.2.2 h.symm
  try simp only [↓reduceIte,hql,hbl]
  repeat' (first | refine AW.seq ?_ | ((first | refine AW.reg (by rfl) ?_ | refine AW.skip ?_ | refine AW.ret ?_ | refine AW.exit ?_);simp only [Y5,aop,Yv,ev,Zd,Zv,Za,↓reduceIte,List.map_cons,List.map_nil,List.length_cons,List.length_nil,List.take_succ_cons,List.drop_zero,List.take_nil,List.nil_append,List.append_nil,true_and,Nat.reduceAdd,Nat.zero_add,Nat.le_refl,Yu,Yk,X0,Zj,agg_162]) | refine AW.block ?_ | with_reducible refine AW.condT rfl ?_ | with_reducible refine AW.condF rfl ?_)
  refine typeP_av q _ _ ?_
  skip
  repeat' (first | refine AW.seq ?_ | ((first | refine AW.reg (by rfl) ?_ | refine AW.skip ?_ | refine AW.ret ?_ | refine AW.exit ?_);simp only [undef,Y5,aop,Yv,ev,ofValue,Zd,Zv,Za,Yx,Nat.reduceEqDiff,↓reduceIte,List.map_cons,List.map_nil,List.drop_zero,List.nil_append,List.append_nil,List.getElem?_cons_zero,List.getElem?_cons_succ,Nat.zero_add,Yu,Yk,X0,gndL,X5,aint,apick,anil,anils,W0,anilm,aifeq,Xd,ne_eq,Option.bind_some,false_and,Bool.false_eq_true,agg_162,iface_167,issl_167,isptr_167]) | refine AW.block ?_ | with_reducible refine AW.condT rfl ?_ | with_reducible refine AW.condF rfl ?_)
  refine ⟨_,_,mKind hP,?_⟩;refine kindP_av _ _ ?_
  try simp only [↓reduceIte,List.length_cons,List.length_nil,List.take_succ_cons,List.take_nil,true_and,Nat.reduceAdd,Nat.zero_add,Nat.le_refl,Zj,Bool.false_eq_true,Bool.not_true,decide_true]
  repeat' (first | refine AW.seq ?_ | refine AW.block ?_ | with_reducible refine AW.condT rfl ?_ | with_reducible refine AW.condF rfl ?_)
  refine isNil_av q 1 ⟨b,0,none⟩ _ (by simp) _ ?_
  try simp only []
  repeat' (first | refine AW.seq ?_ | ((first | refine AW.reg (by rfl) ?_ | refine AW.skip ?_ | refine AW.ret ?_ | refine AW.exit ?_);simp only [Y5,aop,Yv,ev,Zd,Zv,Za,Nat.reduceEqDiff,↓reduceIte,List.map_nil,Xd]) | refine AW.block ?_ | with_reducible refine AW.condT rfl ?_ | with_reducible refine AW.condF rfl ?_)
  refine ⟨_,_,mElem hP,?_⟩;refine elemT_av _ _ ?_
  skip
  repeat' (first | refine AW.seq ?_ | ((first | refine AW.reg (by rfl) ?_ | refine AW.skip ?_ | refine AW.ret ?_ | refine AW.exit ?_);simp only [undef,Y5,aop,Yv,ev,ofValue,Zd,Zv,Za,Yx,Nat.reduceEqDiff,↓reduceIte,List.map_cons,List.map_nil,List.getElem?_cons_zero,List.getElem?_cons_succ,true_and,Yu,Yk,X0,gndL,X5,aint,apick,anil,anils,W0,aun,anilm,aifeq,Xd,ne_eq,Int.reduceNeg,Option.bind_some,false_and,Bool.false_eq_true,iface_167,issl_167,isptr_167,agg_165]) | refine AW.block ?_ | with_reducible refine AW.condT rfl ?_ | with_reducible refine AW.condF rfl ?_)
  refine ⟨_,_,mKind hC,?_⟩;refine kindC_av _ _ ?_
  try simp only [↓reduceIte,Bool.and_self,true_and,Int.reduceNeg,Int.reduceEq,Option.map_some,Zj,Zl,hp_get_out,Bool.not_false,decide_false,gl,gq,gb,List.find?_cons,beq_self_eq_true,Option.isNone_none,Bool.and_self]
  repeat' (first | refine AW.seq ?_ | refine AW.block ?_ | with_reducible refine AW.condT rfl ?_ | with_reducible refine AW.condF rfl ?_)
  refine ⟨_,_,mImpl hC,?_⟩;refine implC_av _ _ ?_
  try simp only [Bool.not_true]
  repeat' (first | refine AW.seq ?_ | ((first | refine AW.reg (by rfl) ?_ | refine AW.skip ?_ | refine AW.ret ?_ | refine AW.exit ?_);simp only [undef,Y5,aop,Yv,ev,Zd,Zv,Za,Yh,Nat.reduceEqDiff,↓reduceIte,List.getD_cons_zero,List.getD_cons_succ,List.map_cons,List.map_nil,List.length_cons,List.length_nil,List.take_succ_cons,List.drop_zero,List.take_nil,List.nil_append,List.append_nil,true_and,Nat.reduceAdd,Nat.zero_add,Nat.le_refl,Yu,Yk,X0,Zj,reduceCtorEq,agg_162]) | refine AW.block ?_ | with_reducible refine AW.condT rfl ?_ | with_reducible refine AW.condF rfl ?_)
  refine Meets.use [(b,.cells 40 [old] 1),(q,.cells 112 [.v (.pointer (some ⟨b,0,none⟩))] 1)] [(l,.cells 162 [.v hP,.v (.pointer (some ⟨q,0,none⟩)),.v (.int .u64 150)] 3)] (by exact (List.perm_append_comm (l₁:=[_,_]) (l₂:=[_])).trans (List.Perm.cons _ (List.Perm.swap _ _ _))) ?_
  refine (as_av c _ _ (.wrap op at_ d x hx) b q old (Ne.symm hqb)).mono ?_
  rintro r t ⟨rfl,ht⟩
  skip
  repeat' (first | refine AW.seq ?_ | ((first | refine AW.reg (by rfl) ?_ | refine AW.skip ?_ | refine AW.ret ?_ | refine AW.exit ?_);simp only [APost,ares,Y9,Za,↓reduceIte]) | refine AW.block ?_ | with_reducible refine AW.condT rfl ?_ | with_reducible refine AW.condF rfl ?_)
  rw [hK'];exact ⟨rfl,List.mem_append_left _ ht⟩
end Go.Proofs.YtddbfjgodbfaoaaGreatDoor.T
namespace Go.Mac
open Go Go.Eng Go.Proofs Go.Proofs.YtddbfjgodbfaoaaGreatDoor.T
theorem codeIn_ok(R:Inst)(l:Bool)(c:Int):∀ e:LV,codeIn e=some c->∃ d,ErrC c d (Z0 R l e)
 | .ifc 40 (.int .i64 n),h=>⟨0,by
   have:Z0 R l (.ifc 40 (.int .i64 n))=.v (.iface 40 (.int .i64 n)):=by cases l <;> simp [Z0,mkIfc]
   rw [this];simp only [codeIn,Option.some.injEq] at h;subst h;exact .code⟩
 | .ifc 155 (.agg [.str s,.int .i64 a,x]),h=>by
   have h':codeIn x=some c:=by simpa [codeIn] using h
   obtain ⟨d,hd⟩:=codeIn_ok R l c x h';refine ⟨d+1,?_⟩;have:Z0 R l (.ifc 155 (.agg [.str s,.int .i64 a,x]))=.ifc 155 (.agg [.v (.string ⟨s.toArray⟩),.v (.int .i64 a),Z0 R l x]):=by cases l <;> simp [Z0,Z4,mkIfc]
   rw [this];exact .wrap _ _ _ _ hd
theorem lm_as{as_:List LV}{st st':St}{v:LV}(h:xAs as_ st=some (v,st')):LMeets Tryz.prog 52 as_ st v st':=by
 unfold xAs at h
 split at h
 case h_2=>simp at h
 rename_i e b
 split at h
 case h_2=>simp at h
 rename_i n hl
 split at h
 case h_2=>simp at h
 rename_i c he;simp only [Option.some.injEq,Prod.mk.injEq] at h;obtain ⟨rfl,rfl⟩:=h
 intro R s hs hr;obtain ⟨d,hd⟩:=codeIn_ok R true c e he;have hc:Z4 R true [e,.ifc 112 (.ptr b 0)]=[Z0 R true e,.v (.iface 112 (.pointer (some ⟨R.ρ b,0,none⟩)))]:=by simp [Z4,Z0,mkIfc]
 rw [hc];obtain ⟨us,hm,hul,hpost⟩:=box_turn hs hl (o:=0) (ds:=[.int .i64 c]) (by simp [LV.plain]) (by simp [Zc,Z8]) (by simp) (.bool true) (.v (.bool true)) (by simp only [Z0];exact Wk.refl _) (by simp [Z8])
 obtain ⟨u,rfl⟩:∃ u,us=[u]:=by
  match us,hul with
  | [u],_=>exact ⟨u,rfl⟩
 have hp:=hpost [.v (.int .i64 c)] (by simp only [Z4,Z0];exact WkL.refl _)
 obtain ⟨t1,t2,rfl⟩:=List.append_of_mem hm;refine Meets.use [(R.ρ b,.cells 40 [u] 1)] (t1++t2) (by exact (List.perm_middle (a:=(R.ρ b,AObj.cells 40 [u] 1)) (l₁:=t1) (l₂:=t2)).symm) ?_
 refine Meets.garb ((eas_av c d _ hd (R.ρ b) u).mono ?_);rintro r t ⟨rfl,ht⟩;refine ⟨[(R.ρ b,.cells 40 [.v (.int .i64 c)] 1)],fun p hp=>by rw [List.mem_singleton.1 hp];exact ht,fun _=>by simp [Hp.keys],?_⟩
 have hperm:(Hp.set (t1++(R.ρ b,AObj.cells 40 [u] 1)::t2) (R.ρ b) (.cells 40 [.v (.int .i64 c)] 1)).Perm ([(R.ρ b,.cells 40 [.v (.int .i64 c)] 1)]++(t1++t2)):=
  set_perm (List.perm_middle (a:=(R.ρ b,AObj.cells 40 [u] 1)) (l₁:=t1) (l₂:=t2)) hs.nd
 have hsp:splice [u] 0 [AV.v (Value.int IntKind.i64 c)]=[AV.v (Value.int IntKind.i64 c)]:=rfl;rw [hsp] at hp;obtain ⟨R',s',g1,g2,g3,g4,g5,g6⟩:=hp;exact ⟨R',s',g1,g2,g3,g4,(HpWk.perm hperm.symm).trans g5,g6⟩
end Go.Mac
