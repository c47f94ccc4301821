/-
 ChainCuts holds for every input: behind any crash there are the records ahead of the cut, and what was appended behind it; no condition.
-/
import Derived.Test.YtddbfjgodbfaoaaCc2
import Derived.Test.YtddbfjgodbfaoaaCc3
set_option linter.unusedVariables false
set_option linter.unusedSimpArgs false
namespace Go.Eng
def AObj.plain:AObj->Bool
 | .cells _ us _=>us.all AV.flat
 | .imap _ es=>es.all (fun p=>p.2.flat)
 | _=>false
theorem RV.flat{I J:Imm}{x:Value}{u:AV}(h:RV I x u)(hu:u.flat=true):RV J x u:=by
 obtain ⟨y,rfl⟩:=AV.flat_iff hu;rw [h.of_v];exact .v y
mutual
def AV.dry:AV->Bool
 | .v _=>true
 | .agg cs=>AV.dryL cs
 | .tup cs=>AV.dryL cs
 | .ifc _ x=>x.dry
 | _=>false
def AV.dryL:List AV->Bool
 | []=>true
 | x::l=>x.dry&&AV.dryL l
end
theorem AV.dryL_mem:∀ {l:List AV},AV.dryL l=true->∀ x∈l,x.dry=true
 | [],_,x,hx=>by simp at hx
 | y::l,h,x,hx=>by
  simp only [AV.dryL,Bool.and_eq_true] at h
  rcases List.mem_cons.1 hx with rfl | hx
  ·exact h.1
  ·exact AV.dryL_mem h.2 x hx
theorem RV.dry{I J:Imm}{x:Value}{u:AV}(h:RV I x u)(hu:u.dry=true):RV J x u:=by
 induction h with
 | v x=>exact .v x
 | agg cs us hl hr ih =>
  simp only [AV.dry] at hu;exact .agg cs us hl fun j u hj=>ih j u hj (AV.dryL_mem hu u (List.mem_of_getElem? hj))
 | tup cs us hl hr ih =>
  simp only [AV.dry] at hu;exact .tup cs us hl fun j u hj=>ih j u hj (AV.dryL_mem hu u (List.mem_of_getElem? hj))
 | ifc t x u hr ih =>
  simp only [AV.dry] at hu;exact .ifc t x u (ih hu)
 | _=>simp [AV.dry] at hu
theorem AObj.plain_rel{I J:Imm}{w:World}{b:Nat}{o:AObj}(hp:o.plain=true)(h:ObjRel I w b o):ObjRel J w b o:=by
 cases o with
 | cells e cs size =>
  obtain ⟨c,hc⟩:=h
  simp only [AObj.plain,List.all_eq_true] at hp;exact ⟨c,hc.block,hc.full,hc.le,fun j u hj=>by
   obtain ⟨x,h1,h2⟩:=hc.cell j u hj;exact ⟨x,h1,h2.flat (hp u (List.mem_of_getElem? hj))⟩⟩
 | imap k es =>
  obtain ⟨c,cl,hc⟩:=h
  simp only [AObj.plain,List.all_eq_true] at hp;exact ⟨c,cl,hc.block,hc.full,fun j p hj=>by
   obtain ⟨m,h1,h2,h3,h4⟩:=hc.entry j p hj;exact ⟨m,h1,h2,h3.flat (hp p (List.mem_of_getElem? hj)),h4⟩,hc.apart⟩
 | iter=>simp [AObj.plain] at hp
 | lp=>simp [AObj.plain] at hp
theorem Meets.borrow2{P:Program}{f:FuncId}{as bs:List AV}{s:Hp}{K:AV->Hp->Prop}(hb:∀ I w vs,Rel I s w->RVs I vs as->RVs (I.with s w) vs bs)(h:Meets P f bs [] (fun r t=>∃ t',(∀ p,p∈t'->p∈t)/\(t.keys.Nodup->t'.keys.Nodup)/\r.dry=true/\(∀ p∈t',p.2.plain=true)/\K r (t'++s))):Meets P f as s K:=by
 unfold Meets at h ⊢;intro I w vs hs ha;have hle:=Imm.le_with (w:=w) hs.free;have hrel:Rel (I.with s w) [] w:=⟨fun b o hb=>Imm.with_heap hs b o hb,fun b o hb=>by simp at hb,fun b hb=>by simp [Hp.keys] at hb,List.nodup_nil,hs.gnd.mono (Imm.le_with hs.free)⟩
 refine (h _ w vs hrel (hb I w vs hs ha)).mono ?_
 rintro v w' ⟨r,t,J,⟨t',q1,q2,q3,q4,q5⟩,q6,q7,q8⟩;have hold:∀ b,b<w.heap.size->w'.heap[b]? = w.heap[b]?:=fun b hb=>q8.frame b hb (by simp [Hp.keys])
 have hkey:∀ b,b∈Hp.keys t'->b∈Hp.keys t:=fun b hb=>Xm q1 b hb
 have hnew:∀ b,b∈Hp.keys t'->w.heap.size<=b:=fun b hb=>by
  rcases q8.own b (hkey b hb) with h | h
  ·exact h
  ·simp [Hp.keys] at h
 refine ⟨r,t'++s,I,q5,⟨fun b o hb=>?_,fun b o hb=>?_,fun b hb=>?_,?_,hs.gnd⟩,q7.dry q3,⟨q8.os,q8.tape,q8.output,q8.size,fun b hb _=>hold b hb,Imm.le_refl _,fun b hb=>?_,fun b h1 h2=>absurd h1 h2⟩⟩
 ·rw [hold b (hs.imm_lt hb)];exact hs.imm b o hb
 ·rcases List.mem_append.1 hb with hb | hb
  ·exact AObj.plain_rel (q4 _ hb) (q6.obj b o (q1 _ hb))
  ·exact (hs.obj b o hb).move (hold b (hs.obj b o hb).lt) (Imm.le_refl _)
 ·rw [Zv,List.mem_append] at hb
  rcases hb with hb | hb
  ·cases hI:I b with
   | none=>rfl
   | some o =>
    have:=hs.imm_lt hI;have:=hnew b hb;omega
  ·exact hs.free b hb
 ·rw [Zv]
  refine List.nodup_append.2 ⟨q2 q6.nodup,hs.nodup,fun a ha c hc e=>?_⟩
  subst e;have h1:=hnew a ha;have h2:=hs.lt hc;omega
 ·rw [Zv,List.mem_append] at hb
  rcases hb with hb | hb
  ·exact .inl (hnew b hb)
  ·exact .inr hb
theorem rvs_box{s:Hp}{b:Nat}{e:TypeId}{us vs:List AV}{n:Nat}{rest:List AV}(hm:(b,AObj.cells e us n)∈s)(hl:us.length=vs.length)(hb:∀ (j:Nat) (u v:AV),us[j]? = some u->vs[j]? = some v->Bor s u v){I:Imm}{w:World}{xs:Array Value}(hs:Rel I s w)(ha:RVs I xs (.v (.pointer (some ⟨b,0,none⟩))::rest)):RVs (I.with s w) xs (.rp (.agg vs)::rest):=by
 have hle:=Imm.le_with (w:=w) hs.free;refine ⟨by rw [ha.len];rfl,fun j v hj=>?_⟩
 cases j with
 | zero =>
  have hv:AV.rp (.agg vs)=v:=by simpa using hj
  subst hv;have h0:=ha.rv 0 _ rfl;rw [h0.of_v];obtain ⟨c,hc⟩:=hs.obj b _ hm;have hkey:b∈s.keys:=List.mem_map.2 ⟨_,hm,rfl⟩;have hcell:∀ (j:Nat) (v:AV),vs[j]? = some v->∃ x,c[j]? = some x/\RV (I.with s w) x v:=by
   intro j v hj;have hlt:j<us.length:=by rw [hl];exact (List.getElem?_eq_some_iff.1 hj).1
   obtain ⟨x,h1,h2⟩:=hc.cell j _ (List.getElem?_eq_getElem hlt);exact ⟨x,h1,(hb j _ v (List.getElem?_eq_getElem hlt) hj).rv hs.obj hle h2⟩
  refine .rp ⟨b,0,none⟩ (.agg vs) (fun j=>(c[j]?).getD undef) rfl (fun j u hj=>?_) (fun j u hj=>?_)
  ·obtain ⟨x,h1,_⟩:=hcell j u hj
   simp only [Imm.cell,Imm.with,if_pos hkey,hc.block]
   simp [h1]
  ·obtain ⟨x,h1,h2⟩:=hcell j u hj
   rw [h1];exact h2
 | succ j=>exact (ha.rv (j+1) v (by simpa using hj)).mono hle
end Go.Eng
namespace Go.Mac
open Go Go.Eng
section
variable {P : Program} {call : Zz} {fu : Nat} {F : Fm}
def bodyF(P:Program)(call:Zz)(fu:Nat)(F:Fm)(c:Code)(ex:List (Nat × Nat))(mask:Nat):LEnv->St->Option (LX × LEnv × St):=fun e1 st1=>Y5 P call fu F c ex mask e1 st1
def loopsC(ret:Nat):Code->List (Nat × Nat)->Nat->List (Code × List (Nat × Nat) × Nat)
 | .seq a b,ex,out=>loopsC ret a ex (live ret b ex out)++loopsC ret b ex out
 | .cond _ a b,ex,out=>loopsC ret a ex out++loopsC ret b ex out
 | .block id c,ex,out=>loopsC ret c ((id,out)::ex) out
 | .loop c,ex,out=>(c,ex,live ret c ex 0)::loopsC ret c ex (live ret c ex 0)
 | _,_,_=>[]
def We(P:Program)(f k:Nat):Code × List (Nat × Nat) × Nat:=
 match P.funcs[f]? with
 | some fn=>match fn.body with
  | some c=>(loopsC (resMask fn.results.toList) c [] (resMask fn.results.toList)).getD k (.skip,[],0)
  | none=>(.skip,[],0)
 | none=>(.skip,[],0)
def frameOf(P:Program)(f m:Nat):Fm:=
 match P.funcs[f]? with
 | some fn=>⟨fn.ntmps,m,resMask fn.results.toList⟩
 | none=>⟨0,0,0⟩
def Z2(P:Program)(C:Cfg)(n f k m:Nat)(fuel:Nat)(e:LEnv)(st:St):Option (LX × LEnv × St):=
 lloop P m (We P f k).2.2 (exitM (frameOf P f m).ret (We P f k).2.1) (bodyF P (Z3 P C n) n (frameOf P f m) (We P f k).1 (We P f k).2.1 (We P f k).2.2) fuel e st
theorem x_mapS{o:Option LV}{v:LV}{st:St}(h:o=some v)(hr:(Z5 v).all (fun b=>decide (b<st.next))=true):
  (match o.map (fun x=>(x,st)) with
   | some (v,st1)=>if st1.next=st.next/\(Z5 v).all (fun b=>decide (b<st.next))=true then some (v,st1) else none
   | none=>none)=some (v,st):=by
 subst h;simp [hr]
theorem Yp{x:Option LV}{v:LV}{st:St}(h:x=some v):x.map (·,st)=some (v,st):=by rw [h];rfl
theorem x_runx{C:Cfg}{n:Nat}{f:FuncId}{G:List LV->St->Option (LV × St)}{as:List LV}{st st1:St}{v:LV}{q:LV × St}(hx:C.ext f=some G)(h:G as st=some (v,st1))(hq:lexit P (C.keep f) (resTys P f) st.next v st1=q):
  Zd P C (Z3 P C n) n f as st=some q:=by
 have hc:lcore P C (Z3 P C n) n f as st=some (v,st1):=by simp only [lcore,hx,h]
 simp only [Zd,hc,hq]
end
end Go.Mac
namespace Go.Mac
open Go Go.Eng
inductive Sz where
 | y (i:Nat) (w:LV)
 | x (b:Nat) (o:LObj)
inductive Sr where
 | a
 | q
 | t (s:St)
inductive So where
 | a
 | q
 | e (y:LV)
 | o (r:Option LV)
 | m (v:LV)
 | t (r:LV × St)
 | f (r:LV × St)
 | fr (s:Sr) (l:List Sz) (r:LV × St)
 | v (w:LV) (s:So)
 | x (b:Nat) (o:LObj) (s:So)
 | g (b:Bool) (s:So)
 | z (l:List Sz) (s:So)
def vOf{α:Type}{v w:α}(_:v=w):α:=w
def rOf{α:Type}{x:Option α}{r:α}(_:x=some r):α:=r
section
variable (P : Program) (C : Cfg)
def dindexAddr(t:TypeId)(y:Option LV)(x i:LV)(k:LV->Prop):Prop:=
 match i with
 | .int _ i =>
  match Xn P t with
  | some el =>
   match Yu P el with
   | some (_,n1) =>
    match x with
    | .sl k' b j n _=>match decide (k'=n1) with
     | true=>(0<=i/\i<n)/\k (.pel n1 b (j+i.toNat) 0)
     | false=>False
    | .asl b o n _=>match decide (n1=1) with
     | true=>(0<=i/\i<n)/\k (.ptr b (o+i.toNat))
     | false=>False
    | .isl k' xs=>match decide (k'=n1),y with
     | true,some y=>(0<=i/\i<xs.length)/\xs[i.toNat]? = some y/\k (.irp y)
     | _,_=>False
    | _=>False
   | none=>False
  | none =>
   match arrT P t with
   | some (len,el) =>
    match Yu P el with
    | some (_,n1) =>
     match x with
     | .ptr bl o=>(0<=i/\i<len)/\k (.ptr bl (o+i.toNat*n1))
     | _=>False
    | none=>False
   | none=>False
 | _=>False
def dindex(t:TypeId)(x i:LV)(k:LV->Prop):Prop:=
 match i with
 | .int _ i =>
  match x with
  | .str s=>match decide (isStrT P t) with
   | true=>(0<=i/\i<s.length)/\k (.int .u8 ((s.getD i.toNat 0).toNat:Int))
   | false=>False
  | _=>False
 | _=>False
def dbounds(len cap:Nat)(lo hi mx:Option Int)(k:Nat->Nat->Prop):Prop:=
 match mx with
 | none=>(0<=lo.getD 0/\lo.getD 0<=hi.getD (len:Int)/\hi.getD (len:Int)<=cap)/\k (lo.getD 0).toNat (hi.getD (len:Int)).toNat
 | some m=>match hi with
  | some h=>(0<=lo.getD 0/\lo.getD 0<=h/\h<=m/\m<=cap)/\k (lo.getD 0).toNat h.toNat
  | none=>False
def dslice(t:TypeId)(x:LV)(lo hi mx:Option LV)(st:St)(k:LV->Prop):Prop:=
 match optI lo,optI hi,optI mx with
 | some lo,some hi,some mx =>
  match Xn P t with
  | some el =>
   match Yu P el with
   | some (_,n1) =>
    match x with
    | .isl k' xs=>match decide (k'=n1) with
     | true=>dbounds xs.length xs.length lo hi mx fun l h=>k (.isl n1 ((xs.take h).drop l))
     | false=>False
    | .sl k' b i n c=>match decide (k'=n1),st.look b with
     | true,some (.row _ _ xs)=>(i+n<=xs.length)/\(match c with | some m=>decide (n<=m) | none=>true)=true/\dbounds n n lo hi mx fun l h =>
      k (if l=0 then .sl n1 b i h (match mx with | some m=>some m.toNat | none=>c)
      else if l=h then .isl n1 [] else .sl n1 b (i+l) (h-l) (match mx with | some m=>some (m.toNat-l) | none=>c.map (· - l)))
     | _,_=>False
    | _=>False
   | none=>False
  | none =>
   match arrT P t with
   | some _=>False
   | none =>
    match x with
    | .str y=>match decide (isStrT P t),mx with
     | true,none=>dbounds y.length y.length lo hi none fun l h=>k (.str ((y.take h).drop l))
     | _,_=>False
    | _=>False
 | _,_,_=>False
def dload(t:TypeId)(p:LV)(y:LV)(st:St)(k:LV->Prop):Prop:=
 match p with
 | .pel n b i o=>match st.look b with
  | some (.row el k' xs)=>xs[i]? = some y/\(match lload P t (.pel n 0 0 o) ⟨1,[(0,.row el k' [y])]⟩ with
   | some (v,_)=>k v
   | none=>False)
  | _=>False
 | _=>False
def dstore(t:TypeId)(p x:LV)(y:LV)(st:St)(k:St->Prop):Prop:=
 match p with
 | .pel n b i o=>match st.look b with
  | some (.row el k' xs)=>xs[i]? = some y/\(match lstore P t (.pel n 0 0 o) x ⟨1,[(0,.row el k' [y])]⟩ with
   | some ⟨_,[(_,.row _ _ [y'])]⟩=>k (st.set b (.row el k' (xs.set i y')))
   | _=>False)
  | _=>False
 | _=>False
def dmakeSlice(t:TypeId)(l c:LV)(st:St)(k:LV->St->Prop):Prop:=
 match l,c with
 | .int _ l,.int _ c =>
  match Xn P t with
  | some el =>
   match Yu P el,bytesT P el,zelem P el with
   | some (_,n1),some by_,some z =>
    match decide (0<by_)&&decide (0<n1)&&decide ((Z4 z).length=n1)&&(Z4 z).all (Xq (Y4 P el)) with
    | true=>(0<=l/\l<=c/\(by_:Int)*c<=281474976710656)/\k (.sl n1 st.next 0 l.toNat none) (st.add (.row el n1 (List.replicate c.toNat z)))
    | false=>False
   | _,_,_=>False
  | none=>False
 | _,_=>False
def delems(el n1:Nat)(x:LV)(st:St)(k:List LV->Prop):Prop:=
 match x with
 | .isl k' xs=>match decide (k'=n1) with
  | true=>Yx (Y4 P el) n1 (Zi xs)=true/\k (Zi xs)
  | false=>False
 | .nils=>k []
 | .sl k' b i n _=>match decide (k'=n1),st.look b with
  | true,some (.row e k'' xs)=>match decide (e=el)&&decide (k''=n1),Y4 P e with
   | true,true=>i+n<=xs.length/\k ((xs.drop i).take n)
   | true,false=>(i+n<=xs.length/\Yx false n1 ((xs.drop i).take n)=true)/\k ((xs.drop i).take n)
   | _,_=>False
  | _,_=>False
 | .asl b o n _=>match decide (n1=1),st.look b with
  | true,some (.box _ cs)=>match decide (o+n<=cs.length)&&((cs.drop o).take n).all (Xq (Y4 P el)) with
   | true=>k ((cs.drop o).take n)
   | false=>False
  | _,_=>False
 | _=>False
def dappend(t:TypeId)(x y:LV)(inp:Bool)(st:St)(k:LV->St->Prop):Prop:=
 match Xn P t with
 | some el =>
  match Yu P el,bytesT P el,zelem P el with
  | some (_,n1),some by_,some z =>
   match decide (0<n1)&&decide (0<by_)&&decide ((Z4 z).length=n1) with
   | true=>delems P el n1 y st fun ys =>
    match x with
    | .nils=>ys.length*by_<=140737488355328/\k (.sl n1 st.next 0 ys.length none) (st.add (.row el n1 ys))
    | .sl k' b 0 n none =>
     match st.look b with
     | some (.row e' k'' xs)=>match decide (k'=n1)&&decide (k''=n1)&&decide (e'=el) with
      | true=>match inp with
       | false=>(xs.length=n/\(n+ys.length)*by_<=140737488355328)/\k (.sl n1 st.next 0 (n+ys.length) none) ((st.del b).add (.row el n1 (xs++ys)))
       | true=>(n<xs.length/\n+ys.length<=xs.length/\(n+ys.length)*by_<=140737488355328)/\k (.sl n1 b 0 (n+ys.length) none) (st.set b (.row el n1 (Z7 xs n ys)))
      | false=>False
     | _=>False
    | _=>False
   | false=>False
  | _,_,_=>False
 | none=>False
def dcopySrc(el:Nat)(x:LV)(st:St)(k:List LV->Prop):Prop:=
 match x with
 | .str y=>match Y4 P el with
  | true=>k (bytesOf y)
  | false=>False
 | x=>delems P el 1 x st k
def dcopy(t:TypeId)(x y:LV)(st:St)(k:LV->St->Prop):Prop:=
 match Xn P t with
 | some el =>
  match Yu P el with
  | some (_,1)=>dcopySrc P el y st fun ys =>
   match x with
   | .sl 1 b i n _ =>
    match st.look b with
    | some (.row e n1 xs)=>match decide (e=el)&&decide (n1=1) with
     | true=>i+n<=xs.length/\k (.int .i64 (min ys.length n:Nat)) (st.set b (.row e n1 (Z7 xs i (ys.take (min ys.length n)))))
     | false=>False
    | _=>False
   | .asl b o n _ =>
    match st.look b with
    | some (.box e cs)=>o+min ys.length n<=cs.length/\k (.int .i64 (min ys.length n:Nat)) (st.set b (.box e (Z7 cs o (Zi ((ys.take (min ys.length n)).flatMap Z4)))))
    | _=>False
   | _=>False
  | _=>False
 | none=>False
def dlookup(t:TypeId)(m i:LV)(commaOk:Bool)(r:Option LV)(st:St)(k:LV->Prop):Prop:=
 match mapT P t,i with
 | some (kk,el),.int k' n =>
  match decide (k'=kk),zelem P el with
  | true,some z =>
   match m with
   | .map b =>
    match st.look b with
    | some (.map k'' es)=>match decide (k''=kk) with
     | true=>Yk es n=r/\(match r with
      | some x=>k (match commaOk with | true=>.tup [Zs x,.bool true] | false=>Zs x)
      | none=>k (match commaOk with | true=>.tup [z,.bool false] | false=>z))
     | false=>False
    | _=>False
   | _=>False
  | _,_=>False
 | _,_=>False
def dbin(op:BinOp)(t:TypeId)(x y:LV)(k:LV->Prop):Prop:=
 match x,y with
 | .int k1 a,.int k2 b =>
  match op with
  | .quo=>match decide (k1=k2) with
   | true=>¬ b=0/\k (.int k1 (k1.wrap (a.tdiv b)))
   | false=>False
  | .rem=>match decide (k1=k2) with
   | true=>¬ b=0/\k (.int k1 (a.tmod b))
   | false=>False
  | .shl=>0<=b/\k (.int k1 (k1.wrap (a*2 ^ (min b.toNat k1.bits))))
  | .shr=>0<=b/\k (.int k1 (a.fdiv (2 ^ (min b.toNat k1.bits))))
  | _=>False
 | .isl _ xs,.nils=>match decide (V2 P t),eqOp op false with
  | true,some v=>xs.isEmpty=false/\k v
  | _,_=>False
 | .sl _ _ _ n _,.nils=>match decide (V2 P t),eqOp op false with
  | true,some v=>¬ n=0/\k v
  | _,_=>False
 | _,_=>False
def dqB(y:Option LV)(o:Op)(e:LEnv)(st:St)(k:LV->St->Prop):Prop:=
 match o with
 | .binOp op t x y _=>dbin P op t (e.ev x) (e.ev y) fun v=>k v st
 | .slice t x lo hi mx=>dslice P t (e.ev x) (lo.map e.ev) (hi.map e.ev) (mx.map e.ev) st fun v=>k v st
 | .indexAddr t x i=>dindexAddr P t y (e.ev x) (e.ev i) fun v=>k v st
 | .index t x i=>dindex P t (e.ev x) (e.ev i) fun v=>k v st
 | .makeSlice t l c=>dmakeSlice P t (e.ev l) (e.ev c) st k
 | .load t x=>match y with
  | some y=>dload P t (e.ev x) y st fun v=>k v st
  | none=>False
 | .store t p x=>match y with
  | some y=>dstore P t (e.ev p) (e.ev x) y st fun st1=>k .any st1
  | none=>False
 | .call c =>
  match c.callee with
  | .builtin b =>
   match b,c.args.toList,c.argTypes.toList with
   | .append,[x,u],[t,t']=>match decide (t=t') with
    | true=>dappend P t (e.ev x) (e.ev u) y.isSome st k
    | false=>False
   | .copy,[x,y],[t,t']=>dcopy P t (e.ev x) (e.ev y) st k
   | _,_,_=>False
  | _=>False
 | _=>False
def doB(r:Option LV)(o:Op)(e:LEnv)(st:St)(k:LV->St->Prop):Prop:=
 match o with
 | .lookup t m i c=>dlookup P t (e.ev m) (e.ev i) c r st fun v=>k v st
 | _=>False
def lpm(o:Op)(e:LEnv)(st:St):Option LV:=
 match o with
 | .binOp op t x y _=>lbin P op t y (e.ev x) (e.ev y)
 | .pick c x y=>match e.ev c with
  | .bool t=>Wa t (e.ev x) (e.ev y)
  | _=>none
 | .unOp op _ x=>lun op (e.ev x)
 | .convert src dst x=>lconv P src dst (e.ev x)
 | .slice t x lo hi mx=>lslice P t (e.ev x) (lo.map e.ev) (hi.map e.ev) (mx.map e.ev) st
 | .fieldAddr t x f=>lfieldAddr P t (e.ev x) f
 | .field t x f=>lfield P t (e.ev x) f
 | .indexAddr t x i=>Wf P t (e.ev x) (e.ev i)
 | .index t x i=>lindex P t (e.ev x) (e.ev i)
 | .lookup t m i c=>llookup P t (e.ev m) (e.ev i) c st
 | .typeAssert x _ as c=>lassert P (e.ev x) as c
 | .extract x i=>lextract (e.ev x) i
 | _=>none
def okB(o:Op)(e:LEnv)(k:Prop):Prop:=match o.operands.toList.all (okOpd e) with
 | true=>k
 | false=>False
def dz:List Sz->LEnv × St->(LEnv × St->Prop)->Prop
 | [],z,k=>k z
 | .y i w::l,z,k=>LEnv.get z.1 i=w/\dz l (z.1.set i w,z.2) k
 | .x b o::l,z,k=>z.2.look b=some o/\dz l (z.1,z.2.set b o) k
def drestC(t:TypeId)(c:LV)(st:St)(k:LV->St->Prop):Prop:=
 match c with
 | .sl n1 b 0 n none=>match st.look b with
  | some (.row e k' xs)=>match decide (k'=n1)&&Y4 P e with
   | true=>xs.length=n/\k (.own e n1 xs) (st.del b)
   | false=>k c st
  | _=>k c st
 | c=>k (restC P t c st).1 (restC P t c st).2
def drestL:List TypeId->List LV->St->(List LV->St->Prop)->Prop
 | t::ts,c::cs,st,k=>drestC P t c st fun c1 st1=>drestL ts cs st1 fun cs1 st2=>k (c1::cs1) st2
 | _,cs,st,k=>k cs st
def drestA:List Nat->St->(St->Prop)->Prop
 | [],st,k=>k st
 | b::l,st,k=>match st.look b with
  | some (.box e cs)=>match isMapT P e with
   | true=>drestA l st k
   | false=>drestL P (cellTys P e) cs st fun cs1 st1=>drestA l (st1.set b (.box e cs1)) k
  | _=>drestA l st k
def drest(s:Sr)(ids:List Nat)(st:St)(k:St->Prop):Prop:=
 match s with
 | .a=>k (X6 P ids st)
 | .q=>drestA P ids st k
 | .t s=>X6 P ids st=s/\k s
def dback(r:LV × St)(ks:List Nat)(st:St)(k:LV->St->Prop):Prop:=k (lback P ks st r.1 r.2).1 (lback P ks st r.1 r.2).2
def dcall(n:Nat)(c:Call)(e:LEnv)(st:St)(rs:Sr)(zs:List Sz)(r:LV × St)(k:LV->St->Prop):Prop:=
 match n with
 | 0=>False
 | n+1 =>
  match (match c.callee with | .builtin _=>true | _=>false) with
  | true=>False
  | false =>
   match (Op.call c).operands.toList.all (okOpd e) with
   | false=>False
   | true =>
    match fnCall P c e with
    | none=>False
    | some (f,as) =>
     match (Z9 as).isEmpty with
     | true=>Zd P C (Z3 P C n) n f (Wb (fun b=>ixOf [] b 0) as) ⟨0,[]⟩=some r /\
      dback P r [] ⟨0,[]⟩ (fun v _=>match (Z5 v).isEmpty with
       | true=>k v st
       | false=>dback P r [] st k)
     | false=>drest P rs (X5 P as st) st fun s=>dz zs ([],s) fun z =>
       Zd P C (Z3 P C n) n f (Wb (fun b=>ixOf (X5 P as z.2) b 0) as) (recanon P (X5 P as z.2) z.2)=some r /\
        dback P r (X5 P as z.2) z.2 k
def dlop(n:Nat):So->Op->LEnv->St->(LV->St->Prop)->Prop
 | .a,o,e,st,k=>match lop P (Z3 P C n) o e st with
  | some (v,st1)=>k v st1
  | none=>False
 | .q,o,e,st,k=>okB o e (dqB P none o e st k)
 | .e y,o,e,st,k=>okB o e (dqB P (some y) o e st k)
 | .o r,o,e,st,k=>okB o e (doB P r o e st k)
 | .m v,o,e,st,k=>okB o e (lpm P o e st=some v/\k v st)
 | .t r,o,e,st,k=>lop P (Z3 P C n) o e st=some r/\k r.1 r.2
 | .f r,o,e,st,k=>match o with
  | .call c=>dcall P C n c e st .a [] r k
  | _=>False
 | .fr s l r,o,e,st,k=>match o with
  | .call c=>dcall P C n c e st s l r k
  | _=>False
 | .v w s,o,e,st,k=>dlop n s o e st fun v st1=>v=w/\k w st1
 | .x b ob s,o,e,st,k=>dlop n s o e st fun v st1=>st1.look b=some ob/\k v (st1.set b ob)
 | _,_,_,_,_=>False
def dlone(n:Nat)(s:So)(o:Oper)(e:LEnv)(st:St)(k:LEnv->St->Prop):Prop:=
 match s with
 | .z l s=>dz l (frz (ghostAll o.op e) e st) fun z=>dlop P C n s o.op z.1 z.2 (fun v st1=>k (z.1.put o.dst v) st1)
 | s=>match ghostAll o.op e with
  | []=>dlop P C n s o.op e st (fun v st1=>k (e.put o.dst v) st1)
  | l=>dlop P C n s o.op (frz l e st).1 (frz l e st).2 (fun v st1=>k ((frz l e st).1.put o.dst v) st1)
def dguard(ops:List Oper)(s:So)(o:Oper)(e:LEnv)(k0:So->Prop)(k1:Prop):Prop:=
 match s with
 | .g b s=>match o.guard with
  | none=>False
  | some (j,w)=>lguard ops e j w=some b/\(match b,w with
   | true,true=>k0 s
   | false,false=>k0 s
   | _,_=>k1)
 | s=>match o.guard with
  | none=>k0 s
  | some (j,w)=>match lguard ops e j w,w with
   | some true,true=>k0 s
   | some false,false=>k0 s
   | some _,_=>k1
   | none,_=>False
def dops(n:Nat)(ops:List Oper):List So->List Oper->LEnv->St->(LEnv->St->Prop)->Prop
 | [],l,e,st,k=>match lops P (Z3 P C n) ops l e st with
  | some (e1,st1)=>k e1 st1
  | none=>False
 | _::_,[],_,_,_=>False
 | s::ss,o::l,e,st,k=>dguard ops s o e (fun s=>dlone P C n s o e st fun e1 st1=>dops n ops ss l e1 st1 k) (dops n ops ss l (e.put o.dst (skipV ops o)) st k)
def dqcall(n:Nat)(c:Call)(e:LEnv)(st:St)(r:LV × St)(k:LV->St->Prop):Prop:=
 match n with
 | 0=>False
 | n+1 =>
  match c.callee with
  | .value _ =>
   match fnCall P c e with
   | none=>False
   | some (f,as) =>
    match (Z9 as).isEmpty&&(Op.call c).operands.toList.all (okOpd e) with
    | false=>False
    | true=>Zd P C (Z3 P C n) n f (Wb (fun b=>ixOf [] b 0) as) ⟨0,[]⟩=some r /\
      dback P r [] ⟨0,[]⟩ (fun v _=>match Z5 v with
       | []=>k v st
       | _=>False)
  | _=>False
def dlopL(n:Nat)(s:So)(o:Op)(e:LEnv)(st:St)(k:LV->St->Prop):Prop:=
 match (ghostIds o e).isEmpty with
 | true=>dlop P C n s o e st fun v st1=>match decide (st1.next=st.next)&&(Z5 v).all (fun b=>decide (b<st.next)) with
  | true=>k v st1
  | false=>False
 | false=>False
def dlopQ(n:Nat)(s:So)(o:Op)(e:LEnv)(st:St)(k:LV->St->Prop):Prop:=
 match s with
 | .f r=>match o with
  | .call c=>dqcall P C n c e st r k
  | _=>False
 | .v w (.f r)=>match o with
  | .call c=>dqcall P C n c e st r fun v st1=>v=w/\k w st1
  | _=>False
 | .t r=>lopS P (Z3 P C n) o e st=some r/\k r.1 r.2
 | .a=>match lopS P (Z3 P C n) o e st with
  | some (v,st1)=>k v st1
  | none=>False
 | s=>match (match o with | .call c=>(match c.callee with | .builtin _=>true | _=>false) | _=>true)&&((ghostIds o e).isEmpty&&(quietOp o||Xy P o)) with
  | true=>dlop P C n s o e st fun v st1=>match decide (st1.next=st.next)&&(Z5 v).all (fun b=>decide (b<st.next)) with
   | true=>k v st1
   | false=>False
  | false=>False
def dlopS(n:Nat)(s:So)(o:Op)(e:LEnv)(st:St)(k:LV->St->Prop):Prop:=
 match Xy P o with
 | true=>dlopL P C n s o e st k
 | false=>dlopQ P C n s o e st k
def dgop(n:Nat)(ops:List Oper)(s:So)(o:Oper)(e:LEnv)(st:St)(k:LV->St->Prop):Prop:=
 match s with
 | .a=>match gopS P (Z3 P C n) ops o e st with
  | some (v,st1)=>k v st1
  | none=>False
 | s=>dguard ops s o e (fun s=>dlopS P C n s o.op e st k) (k (skipV ops o) st)
def drunS(n:Nat)(ops:List Oper):List So->List Oper->LEnv->St->(List LV->List St->Prop)->Prop
 | [],l,e,st,k=>match lrunS P (Z3 P C n) ops l e st with
  | some (vs,S)=>k vs S
  | none=>False
 | _::_,[],_,_,_=>False
 | s::ss,o::l,e,st,k=>dgop P C n ops s o e st fun v st1=>drunS n ops ss l (e.put o.dst v) st1 fun vs S=>k (v::vs) (match Xy P o.op with | true=>st::S | false=>S)
def dsame(n:Nat)(ops:List Oper)(o:Oper)(e:LEnv)(v:LV):List St->List (Bool × So)->(List (Bool × So)->Prop)->Prop
 | [],cs,k=>k cs
 | st::S,cs,k=>dgop P C n ops (match cs with | c::_=>c.2 | []=>.a) o e st fun w _ =>
  match (match cs with | c::_=>c.1 | []=>false) with
  | true=>LV.eqb v w=true/\dsame n ops o e v S cs.tail k
  | false=>match LV.eqb v w with
   | true=>dsame n ops o e v S cs.tail k
   | false=>False
def dchk(n:Nat)(ops:List Oper)(m:Nat)(S:List St):Nat->List Oper->List LV->LEnv->List (Bool × So)->Prop->Prop
 | i,o::l,v::vs,e,cs,k =>
  match loOf P ops m i==hiOf P ops m i with
  | true=>dchk n ops m S (i+1) l vs (e.put o.dst v) cs k
  | false=>match Xy P o.op with
   | true=>False
   | false=>match memFree o.op with
    | true=>dchk n ops m S (i+1) l vs (e.put o.dst v) cs k
    | false=>dsame P C n ops o e v ((S.take (hiOf P ops m i+1)).drop (loOf P ops m i)) cs fun cs=>dchk n ops m S (i+1) l vs (e.put o.dst v) cs k
 | _,_,_,_,_,k=>k
def dacc(n:Nat)(ops:List Oper)(s2:List So)(m:Nat)(e:LEnv)(vs:List LV)(stK:St)(k:LEnv->St->Prop):Prop:=
 match (ops.take m).any (fun o=>(Zy o.op).isSome) with
 | false=>dops P C n ops s2 (ops.drop m) (Yd (ops.take m) vs e) stK k
 | true=>match laccs P (ops.take m) vs stK with
  | some (ws,stA)=>dops P C n ops s2 (ops.drop m) (Yd (ops.take m) ws e) stA k
  | none=>False
def dregB(n:Nat)(ops:List Oper)(zs:List Sz)(s1:List So)(ck:List (Bool × So))(s2:List So)(e:LEnv)(st:St)(k:LEnv->St->Prop):Prop:=
 match lineB P ops ops.length with
 | m=>match Yw ops ops.length&&floatOk P ops m with
  | false=>False
  | true=>dz zs (e,openFor ops st) fun z=>drunS P C n ops s1 (ops.take m) z.1 z.2 fun vs S =>
   match S.getLast? with
   | none=>False
   | some stK=>match laccs P (ops.take m) vs stK with
    | none=>False
    | some (ws,stA) =>
     let K:Prop:=drunS P C n ops s2 (ops.drop m) (Yd (ops.take m) ws e) stA fun us T=>match T.getLast? with
      | none=>False
      | some stZ=>k (Yd ops (ws++us) e) stZ
     match S with
     | [_]=>K
     | S=>dchk P C n ops m S 0 (ops.take m) vs e ck K
def dreg(n fn:Nat)(ops:List Oper)(draw:Bool)(zs:List Sz)(s1:List So)(ck:List (Bool × So))(s2:List So)(e:LEnv)(st:St)(k:LEnv->St->Prop):Prop:=
 match okOps fn ops with
 | false=>False
 | true =>
  match draw with
  | false=>dops P C n ops s1 ops e st k
  | true =>
   match lineFrom ops ops.length with
   | m=>match mixA P (ops.take m) with
    | true=>dregB P C n ops zs s1 ck s2 e st k
    | false=>match Yw ops m with
    | false=>False
    | true=>dz zs (e,openFor (ops.take m) st) fun z =>
     drunS P C n ops s1 (ops.take m) z.1 z.2 fun vs S =>
      match S with
      | []=>False
      | [stK]=>dacc P C n ops s2 m e vs stK k
      | s0::s1::S=>dchk P C n ops m (s0::s1::S) 0 (ops.take m) vs e ck (match (s1::S).getLast? with
        | some stK=>dacc P C n ops s2 m e vs stK k
        | none=>False)
inductive Sc where
 | a
 | t (r:LX × LEnv × St)
 | s (a b:Sc)
 | c (s:Sc)
 | b (t:Bool) (s:Sc)
 | k (s:Sc)
 | kt (l:List Sz) (s:Sc)
 | l (s:Sc)
 | i (s r:Sc)
 | it (l:List Sz) (s r:Sc)
 | h (l:List Sz) (e:LEnv) (st:St) (r:LX × LEnv × St)
 | r (l:List So)
 | d (z:List Sz) (l:List So) (ck:List (Bool × So)) (l2:List So)
def dloopF(m mask:Nat)(xm:LX->Nat)(f:LEnv->St->Option (LX × LEnv × St))(body:Sc->LEnv->St->(LX->LEnv->St->Prop)->Prop):Sc->Nat->LEnv->St->(LX->LEnv->St->Prop)->Prop
 | .i s r,fu,e,st,k=>match fu with
  | 0=>False
  | fu+1=>body s (tidy P m mask e st).1 (tidy P m mask e st).2 fun x e1 st1=>match x with
   | .norm=>dloopF m mask xm f body r fu e1 st1 k
   | x=>k x (tidy P m (xm x) e1 st1).1 (tidy P m (xm x) e1 st1).2
 | .it l s r,fu,e,st,k=>match fu with
  | 0=>False
  | fu+1=>dz l (tidy P m mask e st) fun z=>body s z.1 z.2 fun x e1 st1=>match x with
   | .norm=>dloopF m mask xm f body r fu e1 st1 k
   | x=>k x (tidy P m (xm x) e1 st1).1 (tidy P m (xm x) e1 st1).2
 | .a,fu,e,st,k=>match lloop P m mask xm f fu e st with
  | some (x,e1,st1)=>k x e1 st1
  | none=>False
 | .h l e0 st0 r,fu,e,st,k=>dz l (tidy P m mask e st) fun z=>z=tidy P m mask e0 st0/\lloop P m mask xm f fu e0 st0=some r/\k r.1 r.2.1 r.2.2
 | _,_,_,_,_=>False
def X8(n:Nat)(F:Fm):Code->Sc->List (Nat × Nat)->Nat->LEnv->St->(LX->LEnv->St->Prop)->Prop
 | c,.a,ex,out,e,st,k=>match Y5 P (Z3 P C n) n F c ex out e st with
  | some (x,e1,st1)=>k x e1 st1
  | none=>False
 | c,.t r,ex,out,e,st,k=>Y5 P (Z3 P C n) n F c ex out e st=some r/\k r.1 r.2.1 r.2.2
 | .seq a b,.s s1 s2,ex,out,e,st,k=>X8 n F a s1 ex (live F.ret b ex out) e st fun x e1 st1=>match x with
  | .norm=>X8 n F b s2 ex out e1 st1 k
  | x=>k x e1 st1
 | .cond c a b,.c s,ex,out,e,st,k=>match e.ev c with
  | .bool true=>X8 n F a s ex out e st k
  | .bool false=>X8 n F b s ex out e st k
  | _=>False
 | .cond c a b,.b t s,ex,out,e,st,k=>e.ev c=.bool t/\(match t with
  | true=>X8 n F a s ex out e st k
  | false=>X8 n F b s ex out e st k)
 | .block id c,.k s,ex,out,e,st,k=>X8 n F c s ((id,out)::ex) out e st fun x e1 st1=>match x with
  | .exit i=>match i==id with
   | true=>k .norm (tidy P F.m out e1 st1).1 (tidy P F.m out e1 st1).2
   | false=>k (.exit i) e1 st1
  | x=>k x e1 st1
 | .block id c,.kt l s,ex,out,e,st,k=>X8 n F c s ((id,out)::ex) out e st fun x e1 st1=>match x with
  | .exit i=>match i==id with
   | true=>dz l (tidy P F.m out e1 st1) fun z=>k .norm z.1 z.2
   | false=>k (.exit i) e1 st1
  | x=>k x e1 st1
 | .loop c,.l s,ex,out,e,st,k=>dloopF P F.m (live F.ret c ex 0) (exitM F.ret ex) (fun e1 st1=>Y5 P (Z3 P C n) n F c ex (live F.ret c ex 0) e1 st1) (fun s e1 st1 k=>X8 n F c s ex (live F.ret c ex 0) e1 st1 k) s n e st k
 | .region _ ops draw,.r l,_,_,e,st,k=>dreg P C n F.n ops.toList draw [] l [] [] e st fun e1 st1=>k .norm e1 st1
 | .region _ ops draw,.d z l ck l2,_,_,e,st,k=>dreg P C n F.n ops.toList draw z l ck l2 e st fun e1 st1=>k .norm e1 st1
 | _,_,_,_,_,_,_=>False
def dfin(keep:Bool)(tys:List TypeId)(m:Nat)(z:List Sz)(rs:Sr)(v:LV)(st1:St)(q:LV × St):Prop:=
 dz z (if keep then ([v],st1) else frz (slIds v) [v] st1) fun f=>drest P rs (W3 P m f.1 f.2) f.2 fun s2 =>
  (let v2:=if keep then LEnv.get f.1 0 else nrmV P tys (LEnv.get f.1 0)
   let ids2:=W3 P m [v2] s2
   (ren (fun b=>ixOf ids2 b 0) v2,recanon P ids2 s2)=q)
def drun(n:Nat)(f:FuncId)(s:Sc)(z:List Sz)(rs:Sr)(as:List LV)(st:St)(q:LV × St):Prop:=
 match C.ext f with
 | some G=>match G as st with
  | some (v,st1)=>dfin P (C.keep f) (resTys P f) st.next z rs v st1 q
  | none=>False
 | none =>
  match P.funcs[f]? with
  | none=>False
  | some fn =>
   match fn.body with
   | none=>False
   | some c =>
    match decide (as.length<=fn.ntmps)&&!(fn.name == "runtime.NumGoroutine") with
    | false=>False
    | true=>X8 P C n ⟨fn.ntmps,st.next,resMask fn.results.toList⟩ c s [] (resMask fn.results.toList) (as++List.replicate (fn.ntmps-as.length) .any) st fun x e1 st1 =>
     match x with
     | .exit _=>False
     | _=>match lres P fn.results.toList e1 st1 with
      | none=>False
      | some vs=>dfin P (C.keep f) (resTys P f) st.next z rs (oneTup vs) st1 q
end
end Go.Mac
namespace Go.Mac
open Go Go.Eng
section
variable {P : Program} {C : Cfg}
theorem d_gath_nil(st:St)(acc:List Nat):∀ n,gath P st n [] acc=acc
 | 0=>rfl
 | _+1=>rfl
theorem d_entry_nil{as:List LV}{st:St}(h:Z9 as=[]):X5 P as st=[]:=by
 unfold X5;rw [h];exact d_gath_nil _ _ _
theorem lcall_nil{n:Nat}{f:FuncId}{as:List LV}{st:St}(h:Z9 as=[]){r:LV × St}(hr:Zd P C (Z3 P C n) n f (Wb (fun b=>ixOf [] b 0) as) ⟨0,[]⟩=some r):
  Z3 P C (n+1) f as st=some (lback P [] st r.1 r.2):=by
 have e1:∀ s:St,X6 P [] s=s:=fun _=>rfl
 have e2:recanon P [] st=⟨0,[]⟩:=rfl;simp only [Z3,lcallV,d_entry_nil h,e1,lcallAt,e2,hr]
theorem lcall_rest{n:Nat}{f:FuncId}{as:List LV}{st s:St}(hs:X6 P (X5 P as st) st=s){r:LV × St}(hr:Zd P C (Z3 P C n) n f (Wb (fun b=>ixOf (X5 P as s) b 0) as) (recanon P (X5 P as s) s)=some r):
  Z3 P C (n+1) f as st=some (lback P (X5 P as s) s r.1 r.2):=by
 simp only [Z3,lcallV,lcallAt,hs,hr]
theorem dindexAddr_sound{t:TypeId}{y:Option LV}{x i:LV}{k:LV->Prop}(h:dindexAddr P t y x i k):∃ v,Wf P t x i=some v/\k v:=by
 unfold dindexAddr at h
 split at h
 case h_2=>exact h.elim
 unfold Wf;simp only
 split at h
 ·rename_i el g1
  simp only [g1]
  split at h
  case h_2=>exact h.elim
  rename_i g2;simp only [g2]
  split at h
  ·split at h
   ·rename_i hk
    simp only;rw [if_pos ⟨of_decide_eq_true hk,h.1⟩];exact ⟨_,rfl,h.2⟩
   ·exact h.elim
  ·split at h
   ·rename_i hk
    simp only;rw [if_pos ⟨of_decide_eq_true hk,h.1⟩];exact ⟨_,rfl,h.2⟩
   ·exact h.elim
  ·split at h
   ·rename_i hk
    simp only;rw [if_pos ⟨of_decide_eq_true hk,h.1⟩,h.2.1];exact ⟨_,rfl,h.2.2⟩
   ·exact h.elim
  ·exact h.elim
 ·rename_i g1
  simp only [g1]
  split at h
  case h_2=>exact h.elim
  rename_i g2;simp only [g2]
  split at h
  case h_2=>exact h.elim
  rename_i g3;simp only [g3]
  split at h
  case h_2=>exact h.elim
  simp only;rw [if_pos h.1];exact ⟨_,rfl,h.2⟩
theorem dindex_sound{t:TypeId}{x i:LV}{k:LV->Prop}(h:dindex P t x i k):∃ v,lindex P t x i=some v/\k v:=by
 unfold dindex at h
 split at h
 case h_2=>exact h.elim
 unfold lindex;simp only
 split at h
 case h_2=>exact h.elim
 split at h
 case h_2=>exact h.elim
 rename_i hk;simp only;rw [if_pos ⟨of_decide_eq_true hk,h.1⟩];exact ⟨_,rfl,h.2⟩
theorem dbounds_sound{len cap:Nat}{lo hi mx:Option Int}{k:Nat->Nat->Prop}(h:dbounds len cap lo hi mx k):∃ l u,lbounds len cap lo hi mx=some (l,u)/\k l u:=by
 unfold dbounds at h
 repeat' split at h
 all_goals try exact h.elim
 ·obtain ⟨h0,h⟩:=h
  refine ⟨_,_,?_,h⟩;unfold lbounds;rw [if_pos];simp only [Option.getD_none,Option.isSome_none,Bool.false_eq_true,false_implies,and_true];omega
 ·obtain ⟨h0,h⟩:=h
  refine ⟨_,_,?_,h⟩;unfold lbounds;rw [if_pos]
  ·rfl
  simp only [Option.getD_some,Option.isSome_some,implies_true,and_true];omega
theorem dslice_sound{t:TypeId}{x:LV}{lo hi mx:Option LV}{st:St}{k:LV->Prop}(h:dslice P t x lo hi mx st k):∃ v,lslice P t x lo hi mx st=some v/\k v:=by
 unfold dslice at h
 split at h
 case h_2=>exact h.elim
 rename_i lo' hi' mx' g1 g2 g3;unfold lslice;simp only [g1,g2,g3]
 split at h
 ·rename_i el g4
  simp only [g4]
  split at h
  case h_2=>exact h.elim
  rename_i bb n1 g5;simp only [g5]
  split at h
  ·split at h
   ·rename_i hk
    have hk:=of_decide_eq_true hk;obtain ⟨l,u,h1,h2⟩:=dbounds_sound h;simp only [hk,if_true,h1,Option.map_some];exact ⟨_,rfl,h2⟩
   ·exact h.elim
  ·rename_i k' b i n c
   split at h
   ·rename_i e1 k'' xs hk hl
    have hk:=of_decide_eq_true hk;obtain ⟨h0,hc,h⟩:=h
    obtain ⟨l,u,h1,h2⟩:=dbounds_sound h;have hcap:capOk st b i n c=true:=by
     unfold capOk;simp only [hl,Bool.and_eq_true,decide_eq_true_eq];exact ⟨h0,hc⟩
    simp only [hk,hcap,and_self,if_true,h1,Option.map_some];exact ⟨_,rfl,h2⟩
   ·exact h.elim
  ·exact h.elim
 ·rename_i g4
  simp only [g4]
  split at h
  ·exact h.elim
  ·rename_i g5
   simp only [g5]
   split at h
   ·split at h
    ·rename_i hk
     have hk:=of_decide_eq_true hk;obtain ⟨l,u,h1,h2⟩:=dbounds_sound h;simp only [hk,and_self,if_true,h1,Option.map_some];exact ⟨_,rfl,h2⟩
    ·exact h.elim
   ·exact h.elim
theorem dload_sound{t:TypeId}{p y:LV}{st:St}{k:LV->Prop}(h:dload P t p y st k):∃ v,lload P t p st=some (v,st)/\k v:=by
 unfold dload at h
 split at h
 case h_2=>exact h.elim
 rename_i n b i o
 split at h
 case h_2=>exact h.elim
 rename_i el k' xs hl;obtain ⟨hy,h⟩:=h
 split at h
 case h_2=>exact h.elim
 rename_i v s1 hv;refine ⟨v,?_,h⟩;have e0:St.look ⟨1,[(0,LObj.row el k' [y])]⟩ 0=some (LObj.row el k' [y]):=rfl;unfold lload at hv ⊢;simp only [e0,hl,hy,List.getElem?_cons_zero] at hv ⊢
 split at hv
 ·split at hv
  ·rename_i hc
   simp only [hc,and_self,if_true];simp only [Option.some.injEq,Prod.mk.injEq] at hv;rw [hv.1]
  ·simp at hv
 ·split at hv
  ·rename_i hc
   simp only [hc,if_true]
   split at hv
   ·rename_i c hc2
    simp only [Option.some.injEq,Prod.mk.injEq] at hv;simp only [hc2,hv.1]
   ·simp at hv
  ·simp at hv
 ·simp at hv
theorem dstore_sound{t:TypeId}{p x y:LV}{st:St}{k:St->Prop}(h:dstore P t p x y st k):∃ st1,lstore P t p x st=some st1/\k st1:=by
 unfold dstore at h
 split at h
 case h_2=>exact h.elim
 rename_i n b i o
 split at h
 case h_2=>exact h.elim
 rename_i el k' xs hl;obtain ⟨hy,h⟩:=h
 split at h
 case h_2=>exact h.elim
 rename_i y' hv;refine ⟨_,?_,h⟩;have e0:St.look ⟨1,[(0,LObj.row el k' [y])]⟩ 0=some (LObj.row el k' [y]):=rfl;unfold lstore at hv ⊢
 split at hv
 case h_2=>simp at hv
 simp only [e0,hl,hy,List.getElem?_cons_zero] at hv ⊢
 split at hv
 case isFalse=>simp at hv
 rename_i hc;simp only [hc,if_true]
 split at hv
 case isFalse=>simp at hv
 rename_i hc2;rw [if_pos hc2]
 split at hv
 case h_2=>simp at hv
 rename_i y2 hy2;simp only [List.set_cons_zero,St.set,oset,if_true,Option.some.injEq,St.mk.injEq,List.cons.injEq,Prod.mk.injEq,LObj.row.injEq] at hv;have:y2=y':=by simp_all
 subst this;simp only [and_self,if_true]
theorem dmakeSlice_sound{t:TypeId}{l c:LV}{st:St}{k:LV->St->Prop}(h:dmakeSlice P t l c st k):∃ v st1,lmakeSlice P t l c st=some (v,st1)/\k v st1:=by
 unfold dmakeSlice at h
 split at h
 case h_2=>exact h.elim
 rename_i k1 l k2 c
 split at h
 case h_2=>exact h.elim
 rename_i el g1
 split at h
 case h_2=>exact h.elim
 rename_i bb n1 by_ z g2 g3 g4
 split at h
 case h_2=>exact h.elim
 rename_i hk;simp only [Bool.and_eq_true,decide_eq_true_eq] at hk;obtain ⟨⟨⟨k1,k2⟩,k3⟩,k4⟩:=hk;obtain ⟨⟨h0,h1,h2⟩,h⟩:=h
 refine ⟨_,_,?_,h⟩;unfold lmakeSlice;simp only [g1,g2,g3,g4];rw [if_pos];refine ⟨k1,k2,k3,k4,h0,h1,h2,?_⟩;have:c<=(by_:Int)*c:=by
  have h5:(1:Int)<=(by_:Int):=by omega
  have h6:0<=c:=by omega
  have:=Int.mul_le_mul_of_nonneg_right h5 h6;omega
 omega
theorem delems_sound{el n1:Nat}{x:LV}{st:St}{k:List LV->Prop}(h:delems P el n1 x st k):∃ ys,lelems P el n1 x st=some ys/\k ys:=by
 unfold delems at h
 split at h
 ·split at h
  ·rename_i hk
   have hk:=of_decide_eq_true hk;unfold lelems;simp only [hk,h.1,and_self,if_true];exact ⟨_,rfl,h.2⟩
  ·exact h.elim
 ·exact ⟨_,rfl,h⟩
 ·split at h
  ·rename_i e k'' xs hk hl
   have hk:=of_decide_eq_true hk;unfold lelems;simp only [hk,if_true,hl]
   split at h
   ·rename_i hc hf
    simp only [Bool.and_eq_true,decide_eq_true_eq] at hc;rw [if_pos ⟨hc.1,hc.2,h.1,by rw [hf];rfl⟩]
    exact ⟨_,rfl,h.2⟩
   ·rename_i hc hf
    simp only [Bool.and_eq_true,decide_eq_true_eq] at hc;rw [if_pos ⟨hc.1,hc.2,h.1.1,by rw [h.1.2,Bool.or_true]⟩]
    exact ⟨_,rfl,h.2⟩
   ·exact h.elim
  ·exact h.elim
 ·split at h
  ·rename_i e cs hk hl
   have hk:=of_decide_eq_true hk;unfold lelems;simp only [hk,if_true,hl]
   split at h
   ·rename_i hc
    simp only [Bool.and_eq_true,decide_eq_true_eq] at hc;rw [if_pos ⟨hc.1,hc.2⟩];exact ⟨_,rfl,h⟩
   ·exact h.elim
  ·exact h.elim
 ·exact h.elim
theorem dappend_sound{t:TypeId}{x y:LV}{inp:Bool}{st:St}{k:LV->St->Prop}(h:dappend P t x y inp st k):∃ v st1,lappend P t x y st=some (v,st1)/\k v st1:=by
 unfold dappend at h
 split at h
 case h_2=>exact h.elim
 rename_i el g1
 split at h
 case h_2=>exact h.elim
 rename_i bb n1 by_ z g2 g3 g4
 split at h
 case h_2=>exact h.elim
 rename_i hk;simp only [Bool.and_eq_true,decide_eq_true_eq] at hk;obtain ⟨⟨k1,k2⟩,k3⟩:=hk;obtain ⟨ys,h1,h2⟩:=delems_sound h;unfold lappend;simp only [g1,g2,g3,g4,k1,k2,k3,and_self,if_true,h1]
 split at h2
 ·simp only [h2.1,if_true]
  exact ⟨_,_,rfl,h2.2⟩
 ·split at h2
  ·rename_i e' k'' xs hl
   split at h2
   ·rename_i hc
    simp only [Bool.and_eq_true,decide_eq_true_eq] at hc;simp only [hl]
    split at h2
    ·rw [if_pos ⟨hc.1.1,hc.1.2,hc.2,h2.1.1,h2.1.2⟩]
     exact ⟨_,_,rfl,h2.2⟩
    ·rw [if_neg (fun hh=>by have:=hh.2.2.2.1;have:=h2.1.1;omega),if_pos ⟨hc.1.1,hc.1.2,hc.2,h2.1.2.1,h2.1.2.2⟩]
     exact ⟨_,_,rfl,h2.2⟩
   ·exact h2.elim
  ·exact h2.elim
 ·exact h2.elim
theorem dcopySrc_sound{el:Nat}{x:LV}{st:St}{k:List LV->Prop}(h:dcopySrc P el x st k):∃ ys,lcopySrc P el x st=some ys/\k ys:=by
 unfold dcopySrc at h
 split at h
 ·split at h
  ·rename_i hf
   unfold lcopySrc;simp only [hf,if_true];exact ⟨_,rfl,h⟩
  ·exact h.elim
 ·rename_i x hx
  obtain ⟨ys,h1,h2⟩:=delems_sound h;refine ⟨ys,?_,h2⟩;unfold lcopySrc
  split
  ·exact absurd rfl (hx _)
  ·exact h1
theorem dcopy_sound{t:TypeId}{x y:LV}{st:St}{k:LV->St->Prop}(h:dcopy P t x y st k):∃ v st1,lcopy P t x y st=some (v,st1)/\k v st1:=by
 unfold dcopy at h
 split at h
 case h_2=>exact h.elim
 rename_i el g1
 split at h
 case h_2=>exact h.elim
 rename_i bb g2;obtain ⟨ys,h1,h2⟩:=dcopySrc_sound h;unfold lcopy;simp only [g1,g2,h1]
 split at h2
 ·split at h2
  ·rename_i e n1 xs hl
   split at h2
   ·rename_i hc
    simp only [Bool.and_eq_true,decide_eq_true_eq] at hc;simp only [hl];rw [if_pos ⟨hc.1,hc.2,h2.1⟩];exact ⟨_,_,rfl,h2.2⟩
   ·exact h2.elim
  ·exact h2.elim
 ·split at h2
  ·rename_i e cs hl
   simp only [hl];rw [if_pos h2.1];exact ⟨_,_,rfl,h2.2⟩
  ·exact h2.elim
 ·exact h2.elim
theorem dlookup_sound{t:TypeId}{m i:LV}{commaOk:Bool}{r:Option LV}{st:St}{k:LV->Prop}(h:dlookup P t m i commaOk r st k):∃ v,llookup P t m i commaOk st=some v/\k v:=by
 unfold dlookup at h
 split at h
 case h_2=>exact h.elim
 rename_i kk el k' n g1
 split at h
 case h_2=>exact h.elim
 rename_i z hk g2;have hk:=of_decide_eq_true hk
 split at h
 case h_2=>exact h.elim
 split at h
 case h_2=>exact h.elim
 rename_i k'' es hl
 split at h
 case h_2=>exact h.elim
 rename_i hk2;have hk2:=of_decide_eq_true hk2;unfold llookup;simp only [g1,hk,hk2,if_true,g2,hl,h.1];have h2:=h.2
 cases r with
 | some x=>cases commaOk <;> exact ⟨_,rfl,h2⟩
 | none=>cases commaOk <;> exact ⟨_,rfl,h2⟩
theorem okB_iff{o:Op}{e:LEnv}{k:Prop}(h:okB o e k):o.operands.toList.all (okOpd e)=true/\k:=by
 unfold okB at h
 split at h
 ·rename_i g;exact ⟨g,h⟩
 ·exact h.elim
theorem dbin_sound{op:BinOp}{t:TypeId}{yo:Operand}{x y:LV}{k:LV->Prop}(h:dbin P op t x y k):∃ v,lbin P op t yo x y=some v/\k v:=by
 unfold dbin at h
 split at h
 ·rename_i k1 a k2 b
  split at h
  ·split at h
   ·rename_i hk
    have hk:=of_decide_eq_true hk;exact ⟨_,by simp only [lbin,lint,hk,if_true,h.1,if_false],h.2⟩
   ·exact h.elim
  ·split at h
   ·rename_i hk
    have hk:=of_decide_eq_true hk;exact ⟨_,by simp only [lbin,lint,hk,if_true,h.1,if_false],h.2⟩
   ·exact h.elim
  ·exact ⟨_,by simp only [lbin,lshift,show ¬ b<0 by omega,if_false],h.2⟩
  ·exact ⟨_,by simp only [lbin,lshift,show ¬ b<0 by omega,if_false],h.2⟩
  ·exact h.elim
 ·split at h
  ·rename_i v hk hv
   have hk:=of_decide_eq_true hk;exact ⟨v,by simp only [lbin,lnilS,hk,if_true,h.1,Bool.false_eq_true,if_false,Option.bind_some,hv],h.2⟩
  ·exact h.elim
 ·split at h
  ·rename_i v hk hv
   have hk:=of_decide_eq_true hk;exact ⟨v,by simp only [lbin,lnilS,hk,if_true,h.1,if_false,Option.bind_some,hv],h.2⟩
  ·exact h.elim
 ·exact h.elim
theorem dqB_sound{call:Zz}{y:Option LV}{o:Op}{e:LEnv}{st:St}{k:LV->St->Prop}(h:dqB P y o e st k):∃ v st1,lopB P call o e st=some (v,st1)/\k v st1:=by
 unfold dqB at h
 split at h
 ·rename_i op t x y po
  obtain ⟨v,h1,h2⟩:=dbin_sound (yo:=y) h;exact ⟨v,st,by simp only [lopB,h1,Option.map_some],h2⟩
 ·obtain ⟨v,h1,h2⟩:=dslice_sound h
  exact ⟨v,st,by simp only [lopB,h1,Option.map_some],h2⟩
 ·obtain ⟨v,h1,h2⟩:=dindexAddr_sound h
  exact ⟨v,st,by simp only [lopB,h1,Option.map_some],h2⟩
 ·obtain ⟨v,h1,h2⟩:=dindex_sound h
  exact ⟨v,st,by simp only [lopB,h1,Option.map_some],h2⟩
 ·obtain ⟨v,st1,h1,h2⟩:=dmakeSlice_sound h
  exact ⟨v,st1,by simp only [lopB,h1],h2⟩
 ·split at h
  ·obtain ⟨v,h1,h2⟩:=dload_sound h
   exact ⟨v,st,by simp only [lopB,h1],h2⟩
  ·exact h.elim
 ·split at h
  ·obtain ⟨st1,h1,h2⟩:=dstore_sound h
   exact ⟨.any,st1,by simp only [lopB,h1,Option.map_some],h2⟩
  ·exact h.elim
 ·split at h
  ·rename_i b hc
   split at h
   ·rename_i ha ht
    split at h
    ·rename_i hk
     have hk:=of_decide_eq_true hk;obtain ⟨v,st1,h1,h2⟩:=dappend_sound h;exact ⟨v,st1,by subst hk;simp only [lopB,lcallOp,hc,ha,ht,if_true,h1],h2⟩
    ·exact h.elim
   ·rename_i ha ht
    obtain ⟨v,st1,h1,h2⟩:=dcopy_sound h;exact ⟨v,st1,by simp only [lopB,lcallOp,hc,ha,ht,h1],h2⟩
   ·exact h.elim
  ·exact h.elim
 ·exact h.elim
theorem doB_sound{call:Zz}{r:Option LV}{o:Op}{e:LEnv}{st:St}{k:LV->St->Prop}(h:doB P r o e st k):∃ v st1,lopB P call o e st=some (v,st1)/\k v st1:=by
 unfold doB at h
 split at h
 ·obtain ⟨v,h1,h2⟩:=dlookup_sound h
  exact ⟨v,st,by simp only [lopB,h1,Option.map_some],h2⟩
 ·exact h.elim
theorem lpm_sound{call:Zz}{o:Op}{e:LEnv}{st:St}{v:LV}(h:lpm P o e st=some v):lopB P call o e st=some (v,st):=by
 unfold lpm at h
 split at h
 case h_2 =>
  split at h
  ·rename_i hc
   simp only [lopB,hc,h,Option.map_some]
  ·simp at h
 all_goals first | (simp only [lopB,h,Option.map_some];done) | simp at h
theorem d_oset_same{l:List (Nat × LObj)}{b:Nat}{o:LObj}:Yh l b=some o->oset l b o=l:=by
 induction l with
 | nil=>intro h;simp [Yh] at h
 | cons p l ih =>
  obtain ⟨k,o'⟩:=p
  intro h;simp only [Yh] at h;simp only [oset]
  split at h
  ·rename_i hk
   simp only [hk,if_true,Option.some.injEq] at h ⊢;rw [h]
  ·rename_i hk
   simp only [hk,if_false];rw [ih h]
theorem d_get_set{e:LEnv}{i:Nat}{w:LV}(h:LEnv.get e i=w):e.set i w=e:=by
 subst h;unfold LEnv.get;apply List.ext_getElem?;intro j;rw [List.getElem?_set]
 split
 ·rename_i hj
  subst hj
  split
  ·rename_i hl
   rw [List.getD_eq_getElem?_getD,List.getElem?_eq_getElem hl];rfl
  ·rename_i hl
   rw [List.getElem?_eq_none (by omega)]
 ·rfl
theorem d_look_set{s:St}{b:Nat}{o:LObj}(h:s.look b=some o):s.set b o=s:=by
 unfold St.set;rw [d_oset_same h]
theorem V4:∀ (l:List Sz) {z:LEnv × St} {k:LEnv × St->Prop},dz l z k->k z
 | [],z,k,h=>h
 | .y i w::l,z,k,h=>by
  have:=V4 l h.2;rw [d_get_set h.1] at this;exact this
 | .x b o::l,z,k,h=>by
  have:=V4 l h.2;rw [d_look_set h.1] at this;exact this
theorem drestC_sound{t:TypeId}{c:LV}{st:St}{k:LV->St->Prop}(h:drestC P t c st k):k (restC P t c st).1 (restC P t c st).2:=by
 unfold drestC at h
 split at h
 ·rename_i n1 b n
  cases hl:st.look b with
  | none =>
   rw [hl] at h;simp only [restC,hl];exact h
  | some o =>
   rw [hl] at h
   cases o with
   | row e k' xs =>
    simp only at h;simp only [restC,hl]
    split at h
    ·rename_i hk
     simp only [Bool.and_eq_true,decide_eq_true_eq] at hk;rw [if_pos ⟨hk.1,h.1,hk.2⟩];exact h.2
    ·rename_i hk
     rw [if_neg]
     ·exact h
     ·intro hc
      rw [Bool.and_eq_false_iff] at hk
      rcases hk with hk | hk
      ·rw [decide_eq_false_iff_not] at hk;exact hk hc.1
      ·rw [hc.2.2] at hk;exact absurd hk (by decide)
   | _ =>
    simp only [restC,hl];exact h
 ·exact h
theorem drestL_sound:∀ (ts:List TypeId) (cs:List LV) {st:St} {k:List LV->St->Prop},drestL P ts cs st k->k (restL P ts cs st).1 (restL P ts cs st).2
 | t::ts,c::cs,st,k,h=>by
  unfold drestL at h;have h1:=drestC_sound h;exact drestL_sound ts cs h1
 | [],cs,st,k,h=>by
  cases cs <;> exact h
 | _::_,[],st,k,h=>h
theorem drestA_sound:∀ (l:List Nat) {st:St} {k:St->Prop},drestA P l st k->k (X6 P l st)
 | [],st,k,h=>h
 | b::l,st,k,h=>by
  unfold drestA at h;unfold X6
  split at h
  ·rename_i e cs hl
   simp only [hl]
   split at h
   ·rename_i hm
    rw [hm,if_pos rfl];exact drestA_sound l h
   ·rename_i hm
    rw [hm,if_neg (by simp)]
    have h1:=drestL_sound _ _ h;exact drestA_sound l h1
  ·rename_i hl
   split
   ·rename_i e cs hl2
    exact absurd hl2 (hl e cs)
   ·exact drestA_sound l h
theorem drest_sound{s:Sr}{ids:List Nat}{st:St}{k:St->Prop}(h:drest P s ids st k):k (X6 P ids st):=by
 cases s with
 | a=>exact h
 | q=>exact drestA_sound ids h
 | t s =>
  obtain ⟨h1,h2⟩:=h
  rw [h1];exact h2
theorem dcall_sound{n:Nat}{c:Call}{e:LEnv}{st:St}{rs:Sr}{zs:List Sz}{r:LV × St}{k:LV->St->Prop}(h:dcall P C n c e st rs zs r k):∃ v st1,lop P (Z3 P C n) (.call c) e st=some (v,st1)/\k v st1:=by
 cases n with
 | zero=>exact h.elim
 | succ n =>
  unfold dcall at h;simp only at h
  split at h
  ·exact h.elim
  rename_i hb
  split at h
  ·exact h.elim
  rename_i hok
  split at h
  ·exact h.elim
  rename_i f as hf;have key:lop P (Z3 P C (n+1)) (.call c) e st=doCall (Z3 P C (n+1)) f as st:=by
   simp only [lop,hok,if_true,lopB];unfold lcallOp
   cases hc2:c.callee <;> rw [hc2] at hb <;> simp at hb <;> simp only [hf]
  rw [key]
  split at h
  ·rename_i hr
   have hr':Z9 as=[]:=by simpa using hr
   obtain ⟨h1,h2⟩:=h
   have q:=fun s=>lcall_nil (st:=s) hr' h1
   unfold dback at h2;simp only at h2;simp only [doCall,hr,if_true,pureCall,q]
   split at h2
   ·rename_i hv
    simp only [hv,if_true];exact ⟨_,_,rfl,h2⟩
   ·rename_i hv
    simp only [hv,Bool.false_eq_true,if_false];exact ⟨_,_,rfl,h2⟩
  ·rename_i hr
   simp only [doCall,hr,Bool.false_eq_true,if_false];obtain ⟨h1,h2⟩:=V4 _ (drest_sound h);rw [lcall_rest rfl h1];exact ⟨_,_,rfl,h2⟩
theorem dlop_sound{n:Nat}:∀ (s:So) {o:Op} {e:LEnv} {st:St} {k:LV->St->Prop},dlop P C n s o e st k->∃ v st1,lop P (Z3 P C n) o e st=some (v,st1)/\k v st1:=by
 have hb:∀ {o:Op} {e:LEnv} {st:St} {k:LV->St->Prop} {A:Prop},(A->∃ v st1,lopB P (Z3 P C n) o e st=some (v,st1)/\k v st1)->okB o e A->∃ v st1,lop P (Z3 P C n) o e st=some (v,st1)/\k v st1:=by
  intro o e st k A hA h;obtain ⟨h1,h2⟩:=okB_iff h;obtain ⟨v,st1,h3,h4⟩:=hA h2;exact ⟨v,st1,by simp only [lop,h1,if_true,h3],h4⟩
 intro s
 induction s with
 | a =>
  intro o e st k h;unfold dlop at h
  split at h
  ·rename_i v st1 hv;exact ⟨v,st1,hv,h⟩
  ·exact h.elim
 | q=>intro o e st k h;exact hb dqB_sound h
 | e y=>intro o e st k h;exact hb dqB_sound h
 | o r=>intro o e st k h;exact hb doB_sound h
 | m v=>intro o e st k h;exact hb (fun h=>⟨v,st,lpm_sound h.1,h.2⟩) h
 | t r=>intro o e st k h;exact ⟨_,_,h.1,h.2⟩
 | f r =>
  intro o e st k h;unfold dlop at h
  split at h
  ·exact dcall_sound h
  ·exact h.elim
 | fr s l r =>
  intro o e st k h;unfold dlop at h
  split at h
  ·exact dcall_sound h
  ·exact h.elim
 | v w s ih =>
  intro o e st k h;obtain ⟨v,st1,h1,h2,h3⟩:=ih h;subst h2;exact ⟨v,st1,h1,h3⟩
 | x b ob s ih =>
  intro o e st k h;obtain ⟨v,st1,h1,h2,h3⟩:=ih h;refine ⟨v,st1,h1,?_⟩;have:st1.set b ob=st1:=by
   unfold St.set;rw [d_oset_same h2]
  rw [this] at h3;exact h3
 | _=>intro o e st k h;exact h.elim
theorem lone_eq(call:Zz)(o:Oper)(e:LEnv)(st:St):lone P call o e st=(match lop P call o.op (frz (ghostAll o.op e) e st).1 (frz (ghostAll o.op e) e st).2 with
  | some (v,st1)=>some ((frz (ghostAll o.op e) e st).1.put o.dst v,st1)
  | none=>none):=by
 unfold lone
 split
 ·rename_i h;rw [h];rfl
 ·rfl
theorem dlone_sound{n:Nat}{s:So}{o:Oper}{e:LEnv}{st:St}{k:LEnv->St->Prop}(h:dlone P C n s o e st k):∃ e1 st1,lone P (Z3 P C n) o e st=some (e1,st1)/\k e1 st1:=by
 rw [lone_eq];unfold dlone at h
 split at h
 ·have h1:=V4 _ h
  obtain ⟨v,st1,h2,h3⟩:=dlop_sound _ h1;rw [h2];exact ⟨_,_,rfl,h3⟩
 ·split at h
  ·rename_i hg
   obtain ⟨v,st1,h2,h3⟩:=dlop_sound _ h;rw [hg]
   show ∃ e1 st1,(match lop P (Z3 P C n) o.op e st with | some (v,st1)=>some (e.put o.dst v,st1) | none=>none)=_/\_
   rw [h2];exact ⟨_,_,rfl,h3⟩
  ·obtain ⟨v,st1,h2,h3⟩:=dlop_sound _ h
   rw [h2];exact ⟨_,_,rfl,h3⟩
theorem dguard_sound{ops:List Oper}{s:So}{o:Oper}{e:LEnv}{k0:So->Prop}{k1:Prop}(h:dguard ops s o e k0 k1):
  (∃ s',k0 s'/\(o.guard=none∨∃ j b,o.guard=some (j,b)/\lguard ops e j b=some b))∨(k1/\∃ j w b,o.guard=some (j,w)/\lguard ops e j w=some b/\b≠w):=by
 have key:∀ (s':So) (j:Nat) (b w:Bool),o.guard=some (j,w)->lguard ops e j w=some b->(match b,w with | true,true=>k0 s' | false,false=>k0 s' | _,_=>k1) ->
   (∃ s',k0 s'/\(o.guard=none∨∃ j b,o.guard=some (j,b)/\lguard ops e j b=some b))∨(k1/\∃ j w b,o.guard=some (j,w)/\lguard ops e j w=some b/\b≠w):=by
  intro s' j b w hg hb hk
  cases b <;> cases w
  ·exact .inl ⟨_,hk,.inr ⟨j,false,hg,hb⟩⟩
  ·exact .inr ⟨hk,j,true,false,hg,hb,by simp⟩
  ·exact .inr ⟨hk,j,false,true,hg,hb,by simp⟩
  ·exact .inl ⟨_,hk,.inr ⟨j,true,hg,hb⟩⟩
 unfold dguard at h
 split at h
 ·split at h
  ·exact h.elim
  ·rename_i j w hg
   exact key _ j _ w hg h.1 h.2
 ·split at h
  ·rename_i hg;exact .inl ⟨_,h,.inl hg⟩
  ·rename_i j w hg
   cases hb:lguard ops e j w with
   | none=>rw [hb] at h;simp at h
   | some b =>
    rw [hb] at h;refine key s j b w hg hb ?_
    cases b <;> cases w <;> exact h
theorem dops_sound{n:Nat}{ops:List Oper}:∀ (ss:List So) {l:List Oper} {e:LEnv} {st:St} {k:LEnv->St->Prop},dops P C n ops ss l e st k->∃ e1 st1,lops P (Z3 P C n) ops l e st=some (e1,st1)/\k e1 st1
 | [],l,e,st,k,h=>by
  unfold dops at h
  split at h
  ·rename_i e1 st1 hv;exact ⟨e1,st1,hv,h⟩
  ·exact h.elim
 | _::_,[],e,st,k,h=>h.elim
 | s::ss,o::l,e,st,k,h=>by
  unfold dops at h
  rcases dguard_sound h with ⟨s',h1,h2⟩ | ⟨h1,j,w,b,h2,h3,h4⟩
  ·obtain ⟨e1,st1,h3,h4⟩:=dlone_sound h1
   obtain ⟨e2,st2,h5,h6⟩:=dops_sound ss h4;refine ⟨e2,st2,?_,h6⟩
   rcases h2 with h2 | ⟨j,b,h2,hb⟩
   ·simp only [lops,h2,h3,h5]
   ·simp only [lops,h2,hb,if_true,h3,h5]
  ·obtain ⟨e2,st2,h5,h6⟩:=dops_sound ss h1
   refine ⟨e2,st2,?_,h6⟩;simp only [lops,h2,h3,h4,if_false,h5]
theorem dqcall_sound{n:Nat}{c:Call}{e:LEnv}{st:St}{r:LV × St}{k:LV->St->Prop}(hq:Xy P (.call c)=false)(h:dqcall P C n c e st r k):∃ v,lopS P (Z3 P C n) (.call c) e st=some (v,st)/\k v st:=by
 cases n with
 | zero=>exact h.elim
 | succ n =>
  unfold dqcall at h;simp only at h
  split at h
  ·rename_i x hc
   split at h
   ·exact h.elim
   rename_i f as hf
   split at h
   ·exact h.elim
   rename_i hok;rw [Bool.and_eq_true] at hok;obtain ⟨h1,h2⟩:=h
   unfold dback at h2;simp only at h2
   split at h2
   ·rename_i hv
    have hr':Z9 as=[]:=by simpa using hok.1
    have q:=lcall_nil (st:=⟨0,[]⟩) hr' h1;refine ⟨_,?_,h2⟩;unfold lopS lopN;simp only [Zy,hq,lopQ];simp only [ghostIds,quietOp,hc,List.isEmpty_nil,Bool.true_or,Bool.and_self,if_true,hf,hok.1,hok.2,and_self,pureCall,q,hv,List.isEmpty_nil,Option.map_some,List.all_nil]
   ·exact h2.elim
  ·exact h.elim
theorem alloc_loud{P:Program}{o:Op}(h:Xy P o=true):Zy o=none:=by
 cases o <;> first | rfl | (simp [Xy] at h;done)
theorem alloc_quiet{o:Op}(h:quietOp o=true):Zy o=none:=by
 cases o <;> first | rfl | (simp [quietOp] at h;done)
theorem lopQ_eq{call:Zz}{o:Op}(e:LEnv)(st:St)(h:(match o with | .call c=>(match c.callee with | .builtin _=>true | _=>false) | _=>true)=true):lopQ P call o e st=lop P call o e st:=by
 unfold lopQ
 split
 ·simp only at h
  split at h
  ·rename_i hc;simp only [hc]
  ·simp at h
 ·rfl
theorem dlopQ_sound{n:Nat}{s:So}{o:Op}{e:LEnv}{st:St}{k:LV->St->Prop}(hl:Xy P o=false)(h:dlopQ P C n s o e st k):∃ v st1,lopS P (Z3 P C n) o e st=some (v,st1)/\k v st1:=by
 unfold dlopQ at h
 split at h
 ·split at h
  ·obtain ⟨v,h1,h2⟩:=dqcall_sound hl h
   exact ⟨v,st,h1,h2⟩
  ·exact h.elim
 ·split at h
  ·obtain ⟨v,h1,h2,h3⟩:=dqcall_sound hl h
   subst h2;exact ⟨v,st,h1,h3⟩
  ·exact h.elim
 ·exact ⟨_,_,h.1,h.2⟩
 ·split at h
  ·rename_i v st1 hv;exact ⟨v,st1,hv,h⟩
  ·exact h.elim
 ·split at h
  ·rename_i hc
   rw [Bool.and_eq_true] at hc;obtain ⟨v,st1,h1,h2⟩:=dlop_sound _ h
   split at h2
   ·rename_i hn
    simp only [Bool.and_eq_true,decide_eq_true_eq] at hn;refine ⟨v,st1,?_,h2⟩;unfold lopS;rw [alloc_quiet (by have:=hc.2;simp only [hl,Bool.or_false,Bool.and_eq_true] at this;exact this.2)]
    simp only;rw [if_pos hc.2];simp only [lopN,hl];rw [lopQ_eq e st hc.1,h1];simp only [hn,and_self,if_true]
   ·exact h2.elim
  ·exact h.elim
theorem dlopL_sound{n:Nat}{s:So}{o:Op}{e:LEnv}{st:St}{k:LV->St->Prop}(hl:Xy P o=true)(h:dlopL P C n s o e st k):∃ v st1,lopS P (Z3 P C n) o e st=some (v,st1)/\k v st1:=by
 unfold dlopL at h
 split at h
 ·rename_i hg
  obtain ⟨v,st1,h1,h2⟩:=dlop_sound _ h
  split at h2
  ·rename_i hn
   simp only [Bool.and_eq_true,decide_eq_true_eq] at hn;refine ⟨v,st1,?_,h2⟩;unfold lopS;rw [alloc_loud hl];simp only;rw [if_pos (by rw [hg,hl];simp)]
   simp only [lopN,hl,h1,hn,and_self,if_true]
  ·exact h2.elim
 ·exact h.elim
theorem dlopS_sound{n:Nat}{s:So}{o:Op}{e:LEnv}{st:St}{k:LV->St->Prop}(h:dlopS P C n s o e st k):∃ v st1,lopS P (Z3 P C n) o e st=some (v,st1)/\k v st1:=by
 unfold dlopS at h
 split at h
 ·rename_i hl;exact dlopL_sound hl h
 ·rename_i hl;exact dlopQ_sound hl h
theorem dgop_sound{n:Nat}{ops:List Oper}{s:So}{o:Oper}{e:LEnv}{st:St}{k:LV->St->Prop}(h:dgop P C n ops s o e st k):∃ v st1,gopS P (Z3 P C n) ops o e st=some (v,st1)/\k v st1:=by
 unfold dgop at h
 split at h
 ·split at h
  ·rename_i v st1 hv;exact ⟨v,st1,hv,h⟩
  ·exact h.elim
 ·rcases dguard_sound h with ⟨s',h1,h2⟩ | ⟨h1,j,w,b,h2,h3,h4⟩
  ·obtain ⟨v,st1,h3,h4⟩:=dlopS_sound h1
   refine ⟨v,st1,?_,h4⟩
   rcases h2 with h2 | ⟨j,b,h2,hb⟩
   ·simp only [gopS,h2,h3]
   ·simp only [gopS,h2,hb,if_true,h3]
  ·refine ⟨_,_,?_,h1⟩
   simp only [gopS,h2,h3,h4,if_false]
theorem drunS_sound{n:Nat}{ops:List Oper}:∀ (ss:List So) {l:List Oper} {e:LEnv} {st:St} {k:List LV->List St->Prop},drunS P C n ops ss l e st k->∃ vs S,lrunS P (Z3 P C n) ops l e st=some (vs,S)/\k vs S
 | [],l,e,st,k,h=>by
  unfold drunS at h
  split at h
  ·rename_i vs S hv;exact ⟨vs,S,hv,h⟩
  ·exact h.elim
 | _::_,[],e,st,k,h=>h.elim
 | s::ss,o::l,e,st,k,h=>by
  unfold drunS at h;obtain ⟨v,st1,h1,h2⟩:=dgop_sound h;obtain ⟨vs,S,h3,h4⟩:=drunS_sound ss h2;refine ⟨_,_,?_,h4⟩;simp only [lrunS,h1,h3]
  cases Xy P o.op <;> rfl
theorem dsame_sound{n:Nat}{ops:List Oper}{o:Oper}{e:LEnv}{v:LV}:∀ (S:List St) {cs:List (Bool × So)} {k:List (Bool × So)->Prop},dsame P C n ops o e v S cs k->(∀ st∈S,sameAt P (Z3 P C n) ops o e v st=true)/\∃ cs',k cs'
 | [],cs,k,h=>⟨by simp,cs,h⟩
 | st::S,cs,k,h=>by
  unfold dsame at h;obtain ⟨w,st1,h1,h2⟩:=dgop_sound h;have key:LV.eqb v w=true/\dsame P C n ops o e v S cs.tail k:=by
   split at h2
   ·exact h2
   ·split at h2
    ·rename_i he;exact ⟨he,h2⟩
    ·exact h2.elim
  obtain ⟨h3,h4⟩:=dsame_sound S key.2;refine ⟨fun s hs=>?_,h4⟩
  rcases List.mem_cons.1 hs with rfl | hs
  ·simp only [sameAt,h1,key.1]
  ·exact h3 s hs
theorem dchk_sound{n:Nat}{ops:List Oper}{m:Nat}{S:List St}:∀ (l:List Oper) {i:Nat} {vs:List LV} {e:LEnv} {cs:List (Bool × So)} {k:Prop},dchk P C n ops m S i l vs e cs k->lchk P (Z3 P C n) ops m S i l vs e=true/\k
 | [],i,vs,e,cs,k,h=>⟨by cases vs <;> rfl,by cases vs <;> exact h⟩
 | o::l,i,[],e,cs,k,h=>⟨rfl,h⟩
 | o::l,i,v::vs,e,cs,k,h=>by
  unfold dchk at h;unfold lchk;rw [Bool.and_eq_true]
  split at h
  ·rename_i hlo
   obtain ⟨h1,h2⟩:=dchk_sound l h;exact ⟨⟨by simp only [hlo,if_true],h1⟩,h2⟩
  ·rename_i hlo
   split at h
   ·exact h.elim
   ·rename_i hst
    split at h
    ·rename_i hm
     obtain ⟨h1,h2⟩:=dchk_sound l h;exact ⟨⟨by simp only [hlo,hst,hm,Bool.false_eq_true,if_false,if_true],h1⟩,h2⟩
    ·rename_i hm
     obtain ⟨h0,cs',h⟩:=dsame_sound _ h;obtain ⟨h1,h2⟩:=dchk_sound l h;refine ⟨⟨?_,h1⟩,h2⟩;simp only [hlo,hst,hm,Bool.false_eq_true,if_false];rw [List.all_eq_true];intro j hj;have hj:=List.mem_range.1 hj
     split
     ·rename_i hc
      simp only [Bool.and_eq_true,decide_eq_true_eq] at hc;rw [List.getElem?_eq_getElem hj];refine h0 _ ?_
      rw [List.mem_iff_getElem?];refine ⟨j-loOf P ops m i,?_⟩;rw [List.getElem?_drop,List.getElem?_take,if_pos (by omega)]
      have:loOf P ops m i+(j-loOf P ops m i)=j:=by omega
      rw [this,List.getElem?_eq_getElem hj]
     ·rfl
theorem lrunS_len{P:Program}{call:Zz}{ops:List Oper}:∀ {l:List Oper} {e:LEnv} {st:St} {vs:List LV} {S:List St},lrunS P call ops l e st=some (vs,S)->vs.length=l.length
 | [],e,st,vs,S,h=>by
  simp [lrunS] at h;rw [h.1];rfl
 | o::l,e,st,vs,S,h=>by
  unfold lrunS at h
  split at h <;> try (simp at h;done)
  split at h <;> simp at h
  rename_i vs1 S1 hr;rw [<- h.1];simp [lrunS_len hr]
theorem laccs_none{P:Program}:∀ {l:List Oper} {vs:List LV} {st:St},vs.length=l.length->l.any (fun o=>(Zy o.op).isSome)=false->laccs P l vs st=some (vs,st)
 | [],[],st,h,k=>rfl
 | [],_::_,st,h,k=>by simp at h
 | _::_,[],st,h,k=>by simp at h
 | o::l,v::vs,st,h,k=>by
  rw [List.any_cons,Bool.or_eq_false_iff] at k;have hn:Zy o.op=none:=by simpa using k.1
  unfold laccs;rw [hn];simp only [laccs_none (P:=P) (l:=l) (vs:=vs) (st:=st) (by simpa using h) k.2]
theorem dacc_sound{n m:Nat}{ops:List Oper}{s2:List So}{e:LEnv}{vs:List LV}{stK:St}{k:LEnv->St->Prop}(hl:vs.length=(ops.take m).length)(h:dacc P C n ops s2 m e vs stK k):
  ∃ ws stA,laccs P (ops.take m) vs stK=some (ws,stA)/\dops P C n ops s2 (ops.drop m) (Yd (ops.take m) ws e) stA k:=by
 unfold dacc at h
 split at h
 ·rename_i ha
  exact ⟨vs,stK,laccs_none hl ha,h⟩
 ·split at h
  ·rename_i ws stA hw
   exact ⟨ws,stA,hw,h⟩
  ·exact h.elim
theorem dregB_sound{n:Nat}{ops:List Oper}{zs:List Sz}{s1 s2:List So}{ck:List (Bool × So)}{e:LEnv}{st:St}{k:LEnv->St->Prop}(h:dregB P C n ops zs s1 ck s2 e st k):∃ e1 st1,lregB P (Z3 P C n) ops e st=some (e1,st1)/\k e1 st1:=by
 unfold dregB at h;simp only at h
 split at h
 ·exact h.elim
 rename_i hq;have h:=V4 _ h;simp only at h;obtain ⟨vs,S,h1,h2⟩:=drunS_sound s1 h
 split at h2
 ·exact h2.elim
 rename_i stK hl
 split at h2
 ·exact h2.elim
 rename_i ws stA hw;have key:(S.length=1∨lchk P (Z3 P C n) ops (lineB P ops ops.length) S 0 (ops.take (lineB P ops ops.length)) vs e=true) ->
   (drunS P C n ops s2 (ops.drop (lineB P ops ops.length)) (Yd (ops.take (lineB P ops ops.length)) ws e) stA fun us T=>match T.getLast? with
    | none=>False
    | some stZ=>k (Yd ops (ws++us) e) stZ)->∃ e1 st1,lregB P (Z3 P C n) ops e st=some (e1,st1)/\k e1 st1:=by
  intro g1 g2;obtain ⟨us,T,g3,g4⟩:=drunS_sound s2 g2
  split at g4
  ·exact g4.elim
  rename_i stZ hT;exact ⟨_,_,by simp only [lregB,hq,if_true,h1,g1,hl,hw,g3,hT],g4⟩
 split at h2
 ·exact key (.inl rfl) h2
 ·obtain ⟨h5,h6⟩:=dchk_sound _ h2
  exact key (.inr h5) h6
theorem dreg_sound{n fn:Nat}{ops:List Oper}{draw:Bool}{zs:List Sz}{s1 s2:List So}{ck:List (Bool × So)}{e:LEnv}{st:St}{k:LEnv->St->Prop}(h:dreg P C n fn ops draw zs s1 ck s2 e st k):∃ e1 st1,lregion P (Z3 P C n) fn ops draw e st=some (e1,st1)/\k e1 st1:=by
 unfold dreg at h
 split at h
 ·exact h.elim
 rename_i hok
 split at h
 ·obtain ⟨e1,st1,h1,h2⟩:=dops_sound s1 h
  refine ⟨e1,st1,?_,h2⟩;simp only [lregion,hok,if_true,Bool.false_eq_true,if_false,h1]
 ·simp only at h
  split at h
  ·rename_i hmx
   obtain ⟨e1,st1,g1,g2⟩:=dregB_sound h;exact ⟨e1,st1,by simp only [lregion,hok,if_true,hmx,g1],g2⟩
  rename_i hmx
  split at h
  ·exact h.elim
  rename_i hq;have h:=V4 _ h;simp only at h;obtain ⟨vs,S,h1,h2⟩:=drunS_sound s1 h;have key:∀ stK,(S.length=1∨lchk P (Z3 P C n) ops (lineFrom ops ops.length) S 0 (ops.take (lineFrom ops ops.length)) vs e=true)->S.getLast? = some stK ->
    dacc P C n ops s2 (lineFrom ops ops.length) e vs stK k->∃ e1 st1,lregion P (Z3 P C n) fn ops true e st=some (e1,st1)/\k e1 st1:=by
   intro stK g1 g2 g3;obtain ⟨ws,stA,g4,g5⟩:=dacc_sound (lrunS_len h1) g3;obtain ⟨e1,st1,g6,g7⟩:=dops_sound s2 g5;exact ⟨e1,st1,by simp only [lregion,hok,if_true,hmx,Bool.false_eq_true,if_false,hq,h1,g1,g2,g4,g6],g7⟩
  split at h2
  ·exact h2.elim
  ·exact key _ (.inl rfl) rfl h2
  ·obtain ⟨h5,h2⟩:=dchk_sound _ h2
   split at h2
   ·rename_i stK hl
    exact key stK (.inr h5) (by rw [List.getLast?_cons_cons];exact hl) h2
   ·exact h2.elim
theorem dloopF_sound{m mask:Nat}{xm:LX->Nat}{f:LEnv->St->Option (LX × LEnv × St)}{body:Sc->LEnv->St->(LX->LEnv->St->Prop)->Prop}(hb:∀ s e st k,body s e st k->∃ x e1 st1,f e st=some (x,e1,st1)/\k x e1 st1):
  ∀ (s:Sc) {fu:Nat} {e:LEnv} {st:St} {k:LX->LEnv->St->Prop},dloopF P m mask xm f body s fu e st k->∃ x e1 st1,lloop P m mask xm f fu e st=some (x,e1,st1)/\k x e1 st1:=by
 intro s
 induction s with
 | i s r _ ih =>
  intro fu e st k h
  cases fu with
  | zero=>exact h.elim
  | succ fu =>
   unfold dloopF at h;obtain ⟨x,e1,st1,h1,h2⟩:=hb _ _ _ _ h
   cases x with
   | norm =>
    obtain ⟨x,e2,st2,h3,h4⟩:=ih h2;exact ⟨x,e2,st2,by simp only [lloop,h1,h3],h4⟩
   | exit i=>exact ⟨_,_,_,by simp only [lloop,h1],h2⟩
   | ret=>exact ⟨_,_,_,by simp only [lloop,h1],h2⟩
 | it z s r _ ih =>
  intro fu e st k h
  cases fu with
  | zero=>exact h.elim
  | succ fu =>
   unfold dloopF at h;have h:=V4 _ h;obtain ⟨x,e1,st1,h1,h2⟩:=hb _ _ _ _ h
   cases x with
   | norm =>
    obtain ⟨x,e2,st2,h3,h4⟩:=ih h2;exact ⟨x,e2,st2,by simp only [lloop,h1,h3],h4⟩
   | exit i=>exact ⟨_,_,_,by simp only [lloop,h1],h2⟩
   | ret=>exact ⟨_,_,_,by simp only [lloop,h1],h2⟩
 | a =>
  intro fu e st k h;unfold dloopF at h
  split at h
  ·rename_i x e1 st1 hv;exact ⟨x,e1,st1,hv,h⟩
  ·exact h.elim
 | h l e0 st0 r =>
  intro fu e st k h;obtain ⟨h0,h1,h2⟩:=V4 _ h;refine ⟨_,_,_,?_,h2⟩
  cases fu with
  | zero=>simp [lloop] at h1
  | succ fu =>
   simp only [lloop,h0] at h1 ⊢;exact h1
 | _=>intro fu e st k h;exact h.elim
theorem dexec_sound{n:Nat}{F:Fm}:∀ (c:Code) {s:Sc} {ex:List (Nat × Nat)} {out:Nat} {e:LEnv} {st:St} {k:LX->LEnv->St->Prop},X8 P C n F c s ex out e st k ->
  ∃ x e1 st1,Y5 P (Z3 P C n) n F c ex out e st=some (x,e1,st1)/\k x e1 st1:=by
 intro c;have ha:∀ {c:Code} {ex:List (Nat × Nat)} {out:Nat} {e:LEnv} {st:St} {k:LX->LEnv->St->Prop},X8 P C n F c .a ex out e st k->∃ x e1 st1,Y5 P (Z3 P C n) n F c ex out e st=some (x,e1,st1)/\k x e1 st1:=by
  intro c ex out e st k h;rw [X8] at h
  split at h
  ·rename_i x e1 st1 hv;exact ⟨x,e1,st1,hv,h⟩
  ·exact h.elim
 have ht:∀ {c:Code} {r:LX × LEnv × St} {ex:List (Nat × Nat)} {out:Nat} {e:LEnv} {st:St} {k:LX->LEnv->St->Prop},X8 P C n F c (.t r) ex out e st k->∃ x e1 st1,Y5 P (Z3 P C n) n F c ex out e st=some (x,e1,st1)/\k x e1 st1:=by
  intro c r ex out e st k h;rw [X8] at h;exact ⟨_,_,_,h.1,h.2⟩
 induction c with
 | seq a b iha ihb =>
  intro s ex out e st k h
  cases s with
  | a=>exact ha h
  | t r=>exact ht h
  | s s1 s2 =>
   rw [X8] at h;obtain ⟨x,e1,st1,h1,h2⟩:=iha h
   cases x with
   | norm =>
    obtain ⟨x,e2,st2,h3,h4⟩:=ihb h2;exact ⟨x,e2,st2,by simp only [Y5,h1,h3],h4⟩
   | exit i=>exact ⟨_,e1,st1,by simp only [Y5,h1],h2⟩
   | ret=>exact ⟨_,e1,st1,by simp only [Y5,h1],h2⟩
  | _=>simp [X8] at h
 | cond c a b iha ihb =>
  intro s ex out e st k h
  cases s with
  | a=>exact ha h
  | t r=>exact ht h
  | c s =>
   rw [X8] at h
   split at h
   ·rename_i hc
    obtain ⟨x,e2,st2,h3,h4⟩:=iha h;exact ⟨x,e2,st2,by simp only [Y5,hc,h3],h4⟩
   ·rename_i hc
    obtain ⟨x,e2,st2,h3,h4⟩:=ihb h;exact ⟨x,e2,st2,by simp only [Y5,hc,h3],h4⟩
   ·exact h.elim
  | b t s =>
   simp only [X8] at h;obtain ⟨hc,h⟩:=h
   cases t with
   | true =>
    obtain ⟨x,e2,st2,h3,h4⟩:=iha h;exact ⟨x,e2,st2,by simp only [Y5,hc,h3],h4⟩
   | false =>
    obtain ⟨x,e2,st2,h3,h4⟩:=ihb h;exact ⟨x,e2,st2,by simp only [Y5,hc,h3],h4⟩
  | _=>simp [X8] at h
 | block id c ih =>
  intro s ex out e st k h
  cases s with
  | a=>exact ha h
  | t r=>exact ht h
  | k s =>
   rw [X8] at h;obtain ⟨x,e1,st1,h1,h2⟩:=ih h
   cases x with
   | norm=>exact ⟨_,e1,st1,by simp only [Y5,h1],h2⟩
   | exit i =>
    simp only at h2
    split at h2
    ·rename_i hi
     have hi:i=id:=by simpa using hi
     subst hi;exact ⟨_,_,_,by simp only [Y5,h1,if_true],h2⟩
    ·rename_i hi
     have hi:¬ i=id:=by simpa using hi
     exact ⟨_,_,_,by simp only [Y5,h1,hi,if_false],h2⟩
   | ret=>exact ⟨_,e1,st1,by simp only [Y5,h1],h2⟩
  | kt z s =>
   rw [X8] at h;obtain ⟨x,e1,st1,h1,h2⟩:=ih h
   cases x with
   | norm=>exact ⟨_,e1,st1,by simp only [Y5,h1],h2⟩
   | exit i =>
    simp only at h2
    split at h2
    ·rename_i hi
     have hi:i=id:=by simpa using hi
     subst hi;have h2:=V4 _ h2;exact ⟨_,_,_,by simp only [Y5,h1,if_true],h2⟩
    ·rename_i hi
     have hi:¬ i=id:=by simpa using hi
     exact ⟨_,_,_,by simp only [Y5,h1,hi,if_false],h2⟩
   | ret=>exact ⟨_,e1,st1,by simp only [Y5,h1],h2⟩
  | _=>simp [X8] at h
 | loop c ih =>
  intro s ex out e st k h
  cases s with
  | a=>exact ha h
  | t r=>exact ht h
  | l s =>
   rw [X8] at h;exact dloopF_sound (fun s e1 st1 k h=>ih h) s h
  | _=>simp [X8] at h
 | region id ops draw =>
  intro s ex out e st k h
  cases s with
  | a=>exact ha h
  | t r=>exact ht h
  | r l =>
   rw [X8] at h;obtain ⟨e1,st1,h1,h2⟩:=dreg_sound h;exact ⟨_,e1,st1,by simp only [Y5,h1],h2⟩
  | d z l ck l2 =>
   rw [X8] at h;obtain ⟨e1,st1,h1,h2⟩:=dreg_sound h;exact ⟨_,e1,st1,by simp only [Y5,h1],h2⟩
  | _=>simp [X8] at h
 | _ =>
  intro s ex out e st k h
  cases s with
  | a=>exact ha h
  | t r=>exact ht h
  | _=>simp [X8] at h
theorem dfin_sound{keep:Bool}{tys:List TypeId}{m:Nat}{z:List Sz}{rs:Sr}{v:LV}{st1:St}{q:LV × St}(h:dfin P keep tys m z rs v st1 q):lexit P keep tys m v st1=q:=by
 unfold dfin at h;have h:=drest_sound (V4 _ h);exact h
theorem drun_sound{n:Nat}{f:FuncId}{s:Sc}{z:List Sz}{rs:Sr}{as:List LV}{st:St}{q:LV × St}(h:drun P C n f s z rs as st q):Zd P C (Z3 P C n) n f as st=some q:=by
 unfold drun at h;unfold Zd lcore
 split at h
 ·rename_i G hG
  split at h
  ·rename_i v st1 hv
   simp only [hG,hv,dfin_sound h]
  ·exact h.elim
 ·rename_i hG
  split at h
  ·exact h.elim
  rename_i fn hf
  split at h
  ·exact h.elim
  rename_i c hc
  split at h
  ·exact h.elim
  rename_i hok;simp only [Bool.and_eq_true,decide_eq_true_eq,Bool.not_eq_eq_eq_not,Bool.not_true] at hok;obtain ⟨x,e1,st1,h1,h2⟩:=dexec_sound c h;simp only [hG,hf,hc,hok.1,hok.2,and_self,if_true,h1]
  cases x with
  | exit i=>exact h2.elim
  | norm =>
   simp only at h2
   split at h2
   ·exact h2.elim
   ·rename_i vs hvs
    simp only [hvs,dfin_sound h2]
  | ret =>
   simp only at h2
   split at h2
   ·exact h2.elim
   ·rename_i vs hvs
    simp only [hvs,dfin_sound h2]
theorem ai{a b:Prop}(x:a)(y:b):a/\b:=⟨x,y⟩
theorem drn{n:Nat}{f:FuncId}{as:List LV}{st:St}{q:LV × St}{A:Prop}(h:q=q->A)(s:Sc)(z:List Sz)(rs:Sr)(e:drun P C n f s z rs as st q=A):Zd P C (Z3 P C n) n f as st=some q:=
 drun_sound (e.mpr (h rfl))
end
section
variable (P : Program) (C : Cfg)
def dloopAt(n f k m:Nat)(s:Sc)(fuel:Nat)(e:LEnv)(st:St)(r:LX × LEnv × St):Prop:=
 dloopF P m (We P f k).2.2 (exitM (frameOf P f m).ret (We P f k).2.1) (bodyF P (Z3 P C n) n (frameOf P f m) (We P f k).1 (We P f k).2.1 (We P f k).2.2) (fun s e1 st1 k'=>X8 P C n (frameOf P f m) (We P f k).1 s (We P f k).2.1 (We P f k).2.2 e1 st1 k') s fuel e st (fun x e1 st1=>(x,e1,st1)=r)
end
section
variable {P : Program} {C : Cfg}
theorem dlp{n f k m fuel:Nat}{e:LEnv}{st:St}{r:LX × LEnv × St}{A:Prop}(h:r=r->A)(s:Sc)(hq:dloopAt P C n f k m s fuel e st r=A):Z2 P C n f k m fuel e st=some r:=by
 have h2:dloopAt P C n f k m s fuel e st r:=hq.mpr (h rfl);obtain ⟨x,e1,st1,h3,h4⟩:=dloopF_sound (f:=bodyF P (Z3 P C n) n (frameOf P f m) (We P f k).1 (We P f k).2.1 (We P f k).2.2) (fun s e1 st1 k' h=>dexec_sound _ h) s h2
 unfold Z2;rw [h3,h4]
def eOf{n f k m fuel:Nat}{e:LEnv}{st:St}{r:LX × LEnv × St}(_:Z2 P C n f k m fuel e st=some r):LEnv:=e
def Y2{n f k m fuel:Nat}{e:LEnv}{st:St}{r:LX × LEnv × St}(_:Z2 P C n f k m fuel e st=some r):St:=st
def Zc{n f k m fuel:Nat}{e:LEnv}{st:St}{r:LX × LEnv × St}(_:Z2 P C n f k m fuel e st=some r):LEnv × St:=tidy P m (We P f k).2.2 e st
end
end Go.Mac
