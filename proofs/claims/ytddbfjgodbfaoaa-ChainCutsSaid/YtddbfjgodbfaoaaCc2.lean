/-
 ChainCuts holds for every input: behind any crash there are the records ahead of the cut, and what was appended behind it; no condition.
-/
import Derived.Test.YtddbfjgodbfaoaaCc1
import Derived.RangeFuncIn
set_option linter.unusedVariables false
set_option linter.unusedSimpArgs false
namespace Go.Eng
theorem aop_congr{P:Program}{o:Op}{e e':Env}{s:Hp}{K:AV->Hp->Prop}(he:∀ x∈o.operands,ev e x=ev e' x)(h:aop P o e s K):aop P o e' s K:=by
 have arr:∀ (xs:Array Operand),(∀ x∈xs,ev e x=ev e' x)->xs.toList.map (ev e)=xs.toList.map (ev e'):=by
  intro xs hx;apply List.map_congr_left;intro x hx';exact hx x (Array.mem_toList_iff.1 hx')
 have opt:∀ (x:Option Operand),(∀ y∈x.toArray,ev e y=ev e' y)->x.map (ev e)=x.map (ev e'):=by
  intro x hx
  cases x with
  | none=>rfl
  | some y=>simp only [Option.map_some];rw [hx y (by simp)]
 have prt:∀ (ps:Array (Nat × Operand)),(∀ x∈(ps.toList.map (·.2)).toArray,ev e x=ev e' x)->parts e ps=parts e' ps:=by
  intro ps hx;unfold parts;apply List.map_congr_left;intro p hp;rw [hx p.2 (by simp;exact ⟨p.1,Array.mem_toList_iff.1 hp⟩)]
 cases o <;> simp only [aop] at h ⊢ <;> try exact h
 case call c =>
  unfold acall at h ⊢;obtain ⟨callee,args,ts⟩:=c
  simp only [Op.operands,Call.operands] at he
  cases callee with
  | invoke r m =>
   have hx:ev e r=ev e' r:=he r (by simp)
   have ha:args.toList.map (ev e)=args.toList.map (ev e'):=arr args fun y hy=>he y (by simp [hy])
   simp only at h ⊢;rw [<- hx,<- ha];exact h
  | value x =>
   have hx:ev e x=ev e' x:=he x (by simp)
   have ha:args.toList.map (ev e)=args.toList.map (ev e'):=arr args fun y hy=>he y (by simp [hy])
   simp only at h ⊢;rw [<- hx,<- ha];exact h
  | builtin b =>
   obtain ⟨args⟩:=args;simp only at h ⊢ he;have hm:∀ x∈args,ev e x=ev e' x:=fun x hx=>he x (by simpa using hx)
   split at h
   ·rw [<- hm _ (by simp)];exact h
   ·rw [<- hm _ (List.mem_cons_self),<- hm _ (List.mem_cons_of_mem _ List.mem_cons_self)];exact h
   ·rw [<- hm _ (List.mem_cons_self),<- hm _ (List.mem_cons_of_mem _ List.mem_cons_self)];exact h
   ·rw [<- hm _ (List.mem_cons_self),<- hm _ (List.mem_cons_of_mem _ List.mem_cons_self)];exact h
   ·rw [<- hm _ (List.mem_cons_self),<- hm _ (List.mem_cons_of_mem _ List.mem_cons_self),<- hm _ (List.mem_cons_of_mem _ (List.mem_cons_of_mem _ List.mem_cons_self))];exact h
   ·rw [<- hm _ (List.mem_cons_self),<- hm _ (List.mem_cons_of_mem _ List.mem_cons_self)];exact h
   ·rw [<- hm _ (List.mem_cons_self),<- hm _ (List.mem_cons_of_mem _ List.mem_cons_self)];exact h
   ·exact h.elim
 case build t ps=>unfold abuild at h ⊢;rw [<- prt ps he];exact h
 case buildSlice t len ps=>unfold abuildSlice at h ⊢;rw [<- prt ps he];exact h
 case makeFunc fn first caps =>
  unfold amakeFunc at h ⊢;rw [<- arr first fun y hy=>he y (by simp [Op.operands,hy]),<- arr caps fun y hy=>he y (by simp [Op.operands,hy])];exact h
 case makeMap t r=>rw [<- opt r he];exact h
 case slice t x lo hi mx =>
  simp only [Op.operands] at he;rw [<- he x (by simp),<- opt lo fun y hy=>he y (by simp at hy ⊢;simp [hy]),<- opt hi fun y hy=>he y (by simp at hy ⊢;simp [hy]),<- opt mx fun y hy=>he y (by simp at hy ⊢;simp [hy])];exact h
 case pick c x y =>
  simp only [Op.operands] at he;rw [<- he c (by simp),<- he x (by simp),<- he y (by simp)];exact h
 case mapUpdate t m x y =>
  simp only [Op.operands] at he;rw [<- he m (by simp),<- he x (by simp),<- he y (by simp)];exact h
 case binOp op t x y u =>
  simp only [Op.operands] at he;rw [<- he x (by simp),<- he y (by simp)];exact h
 case lookup t x y c =>
  simp only [Op.operands] at he;rw [<- he x (by simp),<- he y (by simp)];exact h
 case store t x y =>
  simp only [Op.operands] at he;rw [<- he x (by simp),<- he y (by simp)];exact h
 case indexAddr t x y =>
  simp only [Op.operands] at he;rw [<- he x (by simp),<- he y (by simp)];exact h
 case index t x y =>
  simp only [Op.operands] at he;rw [<- he x (by simp),<- he y (by simp)];exact h
 case makeSlice t x y =>
  simp only [Op.operands] at he;rw [<- he x (by simp),<- he y (by simp)];exact h
 all_goals
  simp only [Op.operands] at he;rw [<- he _ (by simp)]
  exact h
def prs(o:Oper):List Nat:=o.after.toList.filterMap fun e=>if Region.binds .any e then some e.on else none
def reach(ops:List Oper):Nat->Nat->Nat->Bool
 | 0,_,_=>false
 | k+1,i,j=>match ops[i]? with
  | some o=>(prs o).any fun p=>p==j||reach ops k p j
  | none=>false
def Yw(ops:List Oper)(m:Nat):Bool:=
 decide (m<=ops.length) &&
 (List.range ops.length).all fun i=>match ops[i]? with
  | none=>false
  | some o =>
   (prs o).all (fun p=>decide (p<i)) &&
   (if i<m then
    (List.range m).all fun j=>match ops[j]? with
     | none=>false
     | some q=>j==i||match q.dst with
      | none=>true
      | some d=>q.dst != o.dst&&(!(o.looksAt ops.toArray).contains d||(decide (j<i)&&reach ops ops.length i j))
   else (List.range i).all fun j=>reach ops ops.length i j)
theorem Ys{ops:List Oper}{D:Nat->Bool}(hD:∀ i o,D i=true->ops[i]? = some o->∀ p∈prs o,D p=true):
  ∀ (k i j:Nat) (o:Oper),ops[i]? = some o->(∀ p∈prs o,D p=true)->reach ops k i j=true->D j=true
 | 0,i,j,o,ho,hp,h=>by simp [reach] at h
 | k+1,i,j,o,ho,hp,h=>by
  simp only [reach,ho,List.any_eq_true,Bool.or_eq_true,beq_iff_eq] at h;obtain ⟨p,hpm,hpj⟩:=h
  rcases hpj with rfl | hpj
  ·exact hp p hpm
  ·cases hop:ops[p]? with
   | none=>cases k <;> simp [reach,hop] at hpj
   | some o'=>exact Ys hD k p j o' hop (hD p o' (hp p hpm) hop) hpj
def qop(P:Program)(ops:List Oper)(o:Oper)(e:Env)(s:Hp)(r:AV):Prop:=
 match o.guard with
 | none=>aop P o.op e s fun r' t=>r'=r/\t=s
 | some (j,want)=>match Xi ops e j with
  | some b=>if b=want then aop P o.op e s fun r' t=>r'=r/\t=s else r=.v undef
  | none=>False
def qops(P:Program)(ops:List Oper):List Oper->Env->Hp->(Env->Prop)->Prop
 | [],e,s,K=>K e
 | o::l,e,s,K=>∃ r,qop P ops o e s r/\qops P ops l (e.put o.dst r) s K
def Z8(ops:List Oper)(m:Nat)(V:Nat->AV)(e:Env)(D:Nat->Bool):Env:=fun t =>
 match (List.range m).find? (fun j=>D j&&((ops[j]?).bind (·.dst)==some t)) with
 | some j=>V j
 | none=>e t
theorem slotsAt_put{ops:List Oper}{m:Nat}{V:Nat->AV}{e:Env}{D:Nat->Bool}{i:Nat}{o:Oper}(hi:i<m)(ho:ops[i]? = some o)(hdis:∀ j q,j<m->j≠i->ops[j]? = some q->∀ d,q.dst=some d->o.dst≠some d):
  (Z8 ops m V e D).put o.dst (V i)=Z8 ops m V e (fun j=>j==i||D j):=by
 have key:∀ t,o.dst=some t->Z8 ops m V e (fun j=>j==i||D j) t=V i:=by
  intro t ht;unfold Z8
  cases hf:(List.range m).find? (fun j=>(j==i||D j)&&((ops[j]?).bind (·.dst)==some t)) with
  | none =>
   have:=List.find?_eq_none.1 hf i (List.mem_range.2 hi);simp [ho,ht] at this
  | some j =>
   have h1:=List.find?_some hf;have h2:=List.mem_range.1 (List.mem_of_find?_eq_some hf)
   show V j=V i
   by_cases hji:j=i
   ·rw [hji]
   ·simp only [Bool.and_eq_true,beq_iff_eq] at h1
    obtain ⟨_,h1⟩:=h1;obtain ⟨q,hq,hqd⟩:=Option.bind_eq_some_iff.1 h1;exact absurd ht (hdis j q h2 hji hq t hqd)
 have other:∀ t,o.dst≠some t->Z8 ops m V e (fun j=>j==i||D j) t=Z8 ops m V e D t:=by
  intro t ht;unfold Z8;have:((List.range m).find? fun j=>(j==i||D j)&&((ops[j]?).bind (·.dst)==some t))=(List.range m).find? fun j=>D j&&((ops[j]?).bind (·.dst)==some t):=by
   congr 1
   funext j
   by_cases hji:j=i
   ·subst hji
    rw [ho,Option.bind_some,beq_eq_false_iff_ne.2 ht,Bool.and_false,Bool.and_false]
   ·rw [beq_eq_false_iff_ne.2 hji,Bool.false_or]
  rw [this]
 funext t
 cases hd:o.dst with
 | none =>
  simp only [Env.put];rw [other t (by rw [hd];simp)]
 | some d =>
  simp only [Env.put,Env.upd]
  split
  ·rename_i htd
   subst htd;rw [key t hd]
  ·rename_i htd
   rw [other t (by rw [hd];simpa using fun h=>htd h.symm)]
theorem X9{ops:List Oper}{m:Nat}(h:Yw ops m=true):
  m<=ops.length/\(∀ i o,ops[i]? = some o->(∀ p∈prs o,p<i) /\
   (i<m->∀ j q d,j<m->j≠i->ops[j]? = some q->q.dst=some d->o.dst≠some d/\(d∈o.looksAt ops.toArray->j<i/\reach ops ops.length i j=true)) /\
   (m<=i->∀ j,j<i->reach ops ops.length i j=true)):=by
 unfold Yw at h;simp only [Bool.and_eq_true,decide_eq_true_eq,List.all_eq_true,List.mem_range] at h;refine ⟨h.1,fun i o ho=>?_⟩
 have hi:i<ops.length:=(List.getElem?_eq_some_iff.1 ho).1;have:=h.2 i hi;rw [ho] at this;simp only [Bool.and_eq_true,List.all_eq_true,decide_eq_true_eq] at this;obtain ⟨h1,h2⟩:=this;refine ⟨h1,fun him j q d hj hne hq hd=>?_,fun hmi j hj=>?_⟩
 ·rw [if_pos him] at h2
  simp only [List.all_eq_true,List.mem_range] at h2;have:=h2 j hj;rw [hq] at this;simp only [Bool.or_eq_true,beq_iff_eq,hne,false_or,hd,Bool.and_eq_true,bne_iff_ne,ne_eq,Bool.not_eq_eq_eq_not,Bool.not_true,decide_eq_true_eq] at this;obtain ⟨q1,q2⟩:=this;refine ⟨fun e=>q1 (by rw [e]),fun hmem=>?_⟩
  rcases q2 with q2 | q2
  ·rw [List.contains_eq_mem] at q2;simp [hmem] at q2
  ·exact q2
 ·rw [if_neg (by omega)] at h2
  simp only [List.all_eq_true,List.mem_range] at h2;exact h2 j hj
theorem qops_vals{P:Program}{ops:List Oper}{m:Nat}(hok:Yw ops m=true){e:Env}{s:Hp}{K:Env->Prop}(h:qops P ops (ops.take m) e s K):
  ∃ V:Nat->AV,K (Z8 ops m V e (fun j=>decide (j<m)))/\∀ i o,i<m->ops[i]? = some o->qop P ops o (Z8 ops m V e (fun j=>decide (j<i))) s (V i):=by
 obtain ⟨hm,hparts⟩:=X9 hok;have key:∀ (l:List Oper) (i:Nat) (V0:Nat->AV),i+l.length=m->(∀ k,l[k]? = if k<l.length then ops[i+k]? else none) ->
   qops P ops l (Z8 ops m V0 e (fun j=>decide (j<i))) s K ->
   ∃ V:Nat->AV,(∀ j,j<i->V j=V0 j)/\K (Z8 ops m V e (fun j=>decide (j<m)))/\∀ k o,i<=k->k<m->ops[k]? = some o->qop P ops o (Z8 ops m V e (fun j=>decide (j<k))) s (V k):=by
  intro l
  induction l with
  | nil =>
   intro i V0 hi hl hq;simp at hi;subst hi;exact ⟨V0,fun _ _=>rfl,hq,fun k o h1 h2=>absurd h1 (by omega)⟩
  | cons o l ih =>
   intro i V0 hi hl hq;simp only [List.length_cons] at hi;have ho:ops[i]? = some o:=by
    have:=hl 0;simp at this;exact this.symm
   obtain ⟨r,hr,hrest⟩:=hq
   let V1:Nat->AV:=fun j=>if j=i then r else V0 j
   have hagree:∀ D:Nat->Bool,(∀ j,D j=true->j<i)->Z8 ops m V1 e D=Z8 ops m V0 e D:=by
    intro D hD
    funext t
    unfold Z8
    split
    ·rename_i j hj
     have:=List.find?_some hj;simp only [Bool.and_eq_true] at this;have:=hD j this.1;simp only [V1];rw [if_neg (by omega)]
    ·rfl
   have hput:(Z8 ops m V0 e (fun j=>decide (j<i))).put o.dst r=Z8 ops m V1 e (fun j=>decide (j<i+1)):=by
    rw [<- hagree _ (by simp)]
    have:=slotsAt_put (V:=V1) (e:=e) (D:=fun j=>decide (j<i)) (i:=i) (o:=o) (by omega) ho (fun j q hj hne hq d hd=>((hparts i o ho).2.1 (by omega) j q d hj hne hq hd).1)
    have e1:V1 i=r:=by simp [V1]
    rw [e1] at this;rw [this]
    congr 1
    funext j
    rw [Bool.eq_iff_iff];simp;omega
   rw [hput] at hrest;obtain ⟨V,h1,h2,h3⟩:=ih (i+1) V1 (by omega) (fun k=>by
    have:=hl (k+1);simp only [List.getElem?_cons_succ,List.length_cons] at this;rw [this,show i+(k+1)=i+1+k by omega]
    by_cases hk:k<l.length <;> simp [hk]) hrest
   refine ⟨V,fun j hj=>?_,h2,fun k o' hk1 hk2 ho'=>?_⟩
   ·rw [h1 j (by omega)];simp only [V1];rw [if_neg (by omega)]
   ·by_cases hki:k=i
    ·subst hki
     rw [ho] at ho';injection ho' with ho';subst ho'
     have e1:V k=r:=by rw [h1 k (by omega)];simp [V1]
     have e2:Z8 ops m V e (fun j=>decide (j<k))=Z8 ops m V0 e (fun j=>decide (j<k)):=by
      funext t
      unfold Z8
      split
      ·rename_i j hj
       have:=List.find?_some hj;simp only [Bool.and_eq_true,decide_eq_true_eq] at this;rw [h1 j (by omega)]
       simp only [V1];rw [if_neg (by omega)]
      ·rfl
     rw [e1,e2];exact hr
    ·exact h3 k o' (by omega) hk2 ho'
 have h0:Z8 ops m (fun _=>.v undef) e (fun j=>decide (j<0))=e:=by
  funext t
  unfold Z8
  split
  ·rename_i j hj
   have:=List.find?_some hj;simp at this
  ·rfl
 obtain ⟨V,_,h2,h3⟩:=key (ops.take m) 0 (fun _=>.v undef) (by simp;omega) (fun k=>by
  rw [List.getElem?_take,List.length_take]
  by_cases hk:k<m
  ·rw [if_pos hk,if_pos (by omega),Nat.zero_add]
  ·rw [if_neg hk,if_neg (by omega)]) (by rw [h0];exact h)
 exact ⟨V,h2,fun i o h1 ho=>h3 i o (Nat.zero_le _) h1 ho⟩
theorem qop_any{P:Program}{ops:List Oper}{m:Nat}(hok:Yw ops m=true){e:Env}{s:Hp}{V:Nat->AV}{D:Nat->Bool}{i:Nat}{o:Oper}(him:i<m)(ho:ops[i]? = some o)(hD:∀ j,j<i->reach ops ops.length i j=true->D j=true)(hDi:D i=false)(h:qop P ops o (Z8 ops m V e (fun j=>decide (j<i))) s (V i)):
  qop P ops o (Z8 ops m V e D) s (V i):=by
 obtain ⟨hm,hparts⟩:=X9 hok;have hi:=(hparts i o ho).2.1 him;have slot:∀ t,t∈o.looksAt ops.toArray->Z8 ops m V e (fun j=>decide (j<i)) t=Z8 ops m V e D t:=by
  intro t ht;unfold Z8;have hne:o.dst≠some t∨True:=.inr trivial
  cases hf:(List.range m).find? (fun j=>D j&&((ops[j]?).bind (·.dst)==some t)) with
  | none =>
   have hf':=List.find?_eq_none.1 hf;have:(List.range m).find? (fun j=>decide (j<i)&&((ops[j]?).bind (·.dst)==some t))=none:=by
    apply List.find?_eq_none.2;intro j hj;have hjm:=List.mem_range.1 hj;intro hc;simp only [Bool.and_eq_true,decide_eq_true_eq,beq_iff_eq] at hc;obtain ⟨q,hq,hqd⟩:=Option.bind_eq_some_iff.1 hc.2;have:=(hi j q t hjm (by omega) hq hqd).2 ht
    have hDj:=hD j this.1 this.2;apply hf' j hj;simp [hDj,hc.2]
   rw [this]
  | some j =>
   have h1:=List.find?_some hf;have hjm:=List.mem_range.1 (List.mem_of_find?_eq_some hf);simp only [Bool.and_eq_true,beq_iff_eq] at h1;obtain ⟨q,hq,hqd⟩:=Option.bind_eq_some_iff.1 h1.2
   cases hf2:(List.range m).find? (fun j=>decide (j<i)&&((ops[j]?).bind (·.dst)==some t)) with
   | none =>
    exfalso;have hf':=List.find?_eq_none.1 hf2 j (List.mem_range.2 hjm)
    by_cases hji:j=i
    ·subst hji
     rw [hDi] at h1;simp at h1
    ·have:=(hi j q t hjm hji hq hqd).2 ht
     apply hf';simp [this.1,h1.2]
   | some j2 =>
    have h3:=List.find?_some hf2;have hj2m:=List.mem_range.1 (List.mem_of_find?_eq_some hf2);simp only [Bool.and_eq_true,beq_iff_eq,decide_eq_true_eq] at h3;obtain ⟨q2,hq2,hqd2⟩:=Option.bind_eq_some_iff.1 h3.2
    by_cases hjj:j=j2
    ·rw [hjj]
    ·exfalso
     have:=((hparts j q hq).2.1 hjm j2 q2 t hj2m (fun h=>hjj h.symm) hq2 hqd2).1
     exact this hqd
 have opnd:∀ x∈o.op.operands,ev (Z8 ops m V e (fun j=>decide (j<i))) x=ev (Z8 ops m V e D) x:=by
  intro x hx
  cases x with
  | tmp t =>
   refine slot t ?_
   unfold Oper.looksAt;apply List.mem_append_left;rw [List.mem_filterMap];exact ⟨_,Array.mem_toList_iff.2 hx,rfl⟩
  | const x=>rfl
  | global g=>rfl
  | func f=>rfl
 unfold qop at h ⊢
 cases hg:o.guard with
 | none =>
  rw [hg] at h;exact aop_congr opnd h
 | some gw =>
  obtain ⟨g,want⟩:=gw;rw [hg] at h;simp only at h ⊢;have hguard:Xi ops (Z8 ops m V e (fun j=>decide (j<i))) g=Xi ops (Z8 ops m V e D) g:=by
   unfold Xi
   cases hd:(ops[g]?).bind (·.dst) with
   | none=>rfl
   | some d =>
    have hsd:=slot d (by
     unfold Oper.looksAt;apply List.mem_append_right;rw [hg];have:(ops.toArray[g]?).bind (·.dst)=some d:=by simpa using hd
     simp only [this,Option.toList_some,List.mem_singleton])
    show (match Z8 ops m V e (fun j=>decide (j<i)) d with | .v (.bool b)=>some b | _=>none)=(match Z8 ops m V e D d with | .v (.bool b)=>some b | _=>none)
    rw [hsd]
  cases hgo:Xi ops (Z8 ops m V e (fun j=>decide (j<i))) g with
  | none=>rw [hgo] at h;exact h.elim
  | some b =>
   rw [hgo] at h;rw [<- hguard,hgo]
   show if b=want then aop P o.op (Z8 ops m V e D) s (fun r' t=>r'=V i/\t=s) else V i=.v undef
   by_cases hw:b=want
   ·rw [if_pos hw]
    have h':aop P o.op (Z8 ops m V e (fun j=>decide (j<i))) s (fun r' t=>r'=V i/\t=s):=by simpa [hw] using h
    exact aop_congr opnd h'
   ·rw [if_neg hw]
    simpa [hw] using h
theorem qop_wp{P:Program}{ops:List Oper}{o:Oper}{e:Env}{s:Hp}{r:AV}(h:qop P ops o e s r){n:Fr}{I:Imm}{w:World}{a:Act}(he:EnvRel I n a e)(hs:Rel I s w)(ro:Option Nat)(hdf:isDefer o.op=false)(next:Act->World->Prop)(Q:Exit->Act->World->Prop)(hn:∀ v J w',RV J v r->Rel J s w'->Ext I s w J s w'->next (a.put o.dst v) w'):
  if Region.wanted o (yielded ops.toArray a.tmps) then o.wpIn (fw ro) 0 P a w next Q else (∀ f,o.about P w a.eval=some f->(fw ro).fn f)/\next (a.put o.dst undef) w:=by
 have run:aop P o.op e s (fun r' t=>r'=r/\t=s)->o.wpIn (fw ro) 0 P a w next Q:=fun h =>
  op_wpIn ro 0 hdf<|aop_sound h n I w a he hs next Q fun v r' t J w' h1 h2 h3 ⟨h4,h5⟩=>by
   subst h4;subst h5;exact hn v J w' h1 h2 h3
 unfold qop at h
 split at h
 ·rename_i hg
  rw [if_pos (by simp [Region.wanted,hg])]
  exact run h
 ·rename_i j want hg
  split at h
  ·rename_i b hb
   unfold Xi at hb
   split at hb
   ·rename_i d hd
    split at hb
    ·rename_i b' hed
     injection hb with hb;subst hb
     have hwant:Region.wanted o (yielded ops.toArray a.tmps)=(b'==want):=by
      have hv:=he.rv d;rw [hed] at hv;have hdn:a.tmps.getD d undef=.bool b':=hv.of_v;have:a.tmps[d]? = some (.bool b'):=by
       simp only [Array.getD_eq_getD_getElem?] at hdn
       cases hq:a.tmps[d]? with
       | none=>rw [hq] at hdn;simp [undef] at hdn
       | some y=>rw [hq] at hdn;simp at hdn;rw [hdn]
      have hj':(ops.toArray[j]?).bind (·.dst)=some d:=by simpa using hd
      simp only [Region.wanted,hg,yielded,hj',Option.bind_some,this]
      cases b' <;> cases want <;> rfl
     by_cases hbw:b'=want
     ·rw [if_pos (by rw [hwant];simpa using hbw)]
      rw [if_pos hbw] at h;exact run h
     ·rw [if_neg (by rw [hwant];simpa using hbw)]
      rw [if_neg hbw] at h;subst h;exact ⟨fun _ _=>trivial,hn undef I w (.v _) hs (Ext.refl _ _ _)⟩
    ·simp at hb
   ·simp at hb
  ·exact h.elim
section
variable {P : Program} {ops : List Oper} {m : Nat}
theorem mem_ready{listed:Array Bool}{i:Nat}:i∈Region.ready .any ops.toArray listed↔i<ops.length/\listed.getD i true=false/\∃ o,ops[i]? = some o/\∀ p∈prs o,listed.getD p false=true:=by
 unfold Region.ready;rw [List.mem_filter,List.mem_range];have hsz:ops.toArray.size=ops.length:=by simp
 rw [hsz]
 constructor
 ·rintro ⟨h1,h2⟩
  simp only [Bool.and_eq_true,Bool.not_eq_eq_eq_not,Bool.not_true] at h2;refine ⟨h1,h2.1,ops[i],List.getElem?_eq_getElem h1,fun p hp=>?_⟩
  have h3:=h2.2;have:ops.toArray[i]? = some ops[i]:=by simp [h1]
  rw [this] at h3;simp only [Option.map_some,Option.getD_some,Array.all_eq_true'] at h3;unfold prs at hp;rw [List.mem_filterMap] at hp;obtain ⟨e,he,hpe⟩:=hp
  split at hpe
  ·rename_i hb
   injection hpe with hpe;subst hpe
   have:=h3 e (Array.mem_toList_iff.1 he);simpa [hb] using this
  ·simp at hpe
 ·rintro ⟨h1,h2,o,ho,h3⟩
  refine ⟨h1,?_⟩;simp only [Bool.and_eq_true,Bool.not_eq_eq_eq_not,Bool.not_true];refine ⟨h2,?_⟩;have:ops.toArray[i]? = some o:=by simpa using ho
  rw [this];simp only [Option.map_some,Option.getD_some,Array.all_eq_true'];intro e he
  by_cases hb:Region.binds .any e=true
  ·have:=h3 e.on (by
    unfold prs;rw [List.mem_filterMap];exact ⟨e,Array.mem_toList_iff.2 he,by rw [if_pos hb]⟩)
   simp [hb,this]
  ·simp only [Bool.not_eq_true] at hb
   simp [hb]
theorem any_tail(ro:Option Nat)(hok:Yw ops m=true)(Q:Exit->Act->World->Prop):∀ (q i:Nat) (listed:Array Bool) (a:Act) (w:World),i+q=ops.length->m<=i->listed.size=ops.length->(∀ j,j<ops.length->listed.getD j true=decide (j<i)) ->
  wpListIn (fw ro) 0 P ops.toArray Q (ops.drop i) a w->wpAnyIn (fw ro) 0 P .any ops.toArray Q q listed a w:=by
 obtain ⟨hm,hparts⟩:=X9 hok;have low:∀ (i:Nat) (listed:Array Bool),listed.size=ops.length->(∀ j,j<ops.length->listed.getD j true=decide (j<i))->∀ j,listed.getD j false=true↔j<i/\j<ops.length:=by
  intro i listed hsz hl j
  by_cases hj:j<ops.length
  ·have:=hl j hj
   have e1:listed.getD j true=listed.getD j false:=by simp [Array.getD,hsz,hj]
   rw [<- e1,this];simp [hj]
  ·have:listed.getD j false=false:=by simp [Array.getD,hsz,hj]
   rw [this];simp [hj]
 intro q
 induction q with
 | zero =>
  intro i listed a w hi hmi hsz hl h;have hiN:i=ops.length:=by omega
  subst hiN;refine ⟨?_,by simpa [wpListIn] using h⟩
  rw [List.eq_nil_iff_forall_not_mem];intro j hj;obtain ⟨h1,h2,_⟩:=mem_ready.1 hj;rw [hl j h1] at h2;simp at h2;omega
 | succ q ih =>
  intro i listed a w hi hmi hsz hl h;have hiN:i<ops.length:=by omega
  have ho:ops[i]? = some ops[i]:=List.getElem?_eq_getElem hiN;have hready:i∈Region.ready .any ops.toArray listed:=by
   refine mem_ready.2 ⟨hiN,by rw [hl i hiN];simp,_,ho,fun p hp=>?_⟩
   have hpi:=(hparts i _ ho).1 p hp;exact (low i listed hsz hl p).2 ⟨hpi,by omega⟩
  refine ⟨fun hnil=>by rw [hnil] at hready;simp at hready,fun k hk=>?_⟩
  obtain ⟨hk1,hk2,o,hko,hk3⟩:=mem_ready.1 hk;have hki:k=i:=by
   rw [hl k hk1] at hk2;simp at hk2
   by_cases hne:k=i
   ·exact hne
   ·exfalso
    have hr:=(hparts k o hko).2.2 (by omega) i (by omega)
    have:=Ys (D:=fun j=>listed.getD j false) (fun j o' hj ho' p hp=>by
     have hji:=((low i listed hsz hl j).1 hj).1;exact (low i listed hsz hl p).2 ⟨by have:=(hparts j o' ho').1 p hp;omega,by have:=(hparts j o' ho').1 p hp;have:=(List.getElem?_eq_some_iff.1 ho').1;omega⟩) _ k i o hko hk3 hr
    have:=((low i listed hsz hl i).1 this).1;omega
  subst hki;rw [ho] at hko;injection hko with hko;subst hko
  rw [List.drop_eq_getElem_cons hiN] at h;unfold wpListIn at h;have hoa:ops.toArray[k]? = some ops[k]:=by simp [hiN]
  unfold wpOpIn;rw [hoa];have hnext:∀ a w,wpListIn (fw ro) 0 P ops.toArray Q (ops.drop (k+1)) a w->wpAnyIn (fw ro) 0 P .any ops.toArray Q q (listed.setIfInBounds k true) a w:=by
   intro a w h;refine ih (k+1) _ a w (by omega) (by omega) (by simp [hsz]) (fun j hj=>?_) h
   have:=hl j hj;simp only [Array.getD_eq_getD_getElem?] at this ⊢
   by_cases hjk:k=j
   ·subst hjk
    rw [Array.getElem?_setIfInBounds_self_of_lt (by rw [hsz];exact hj)]
    simp
   ·rw [Array.getElem?_setIfInBounds_ne hjk,this]
    rw [Bool.eq_iff_iff];simp;omega
  simp only
  split
  ·rename_i hw
   rw [if_pos hw] at h;exact Oper.wpIn_mono hnext h
  ·rename_i hw
   rw [if_neg hw] at h;exact ⟨h.1,hnext _ _ h.2⟩
def cnt(D:Nat->Bool)(m:Nat):Nat:=((List.range m).filter D).length
theorem cnt_le(D:Nat->Bool)(m:Nat):cnt D m<=m:=by
 have:=List.length_filter_le D (List.range m);simpa [cnt] using this
theorem cnt_all(D:Nat->Bool):∀ m,(∀ j,j<m->D j=true)->cnt D m=m
 | 0,h=>rfl
 | m+1,h=>by
  unfold cnt;rw [List.range_succ,List.filter_append,List.length_append];have:=cnt_all D m (fun j hj=>h j (by omega))
  unfold cnt at this;rw [this];simp [h m (by omega)]
theorem cnt_add(D:Nat->Bool)(i:Nat)(hD:D i=false):∀ m,i<m->cnt (fun j=>j==i||D j) m=cnt D m+1
 | 0,h=>by omega
 | m+1,h=>by
  have step:∀ E:Nat->Bool,cnt E (m+1)=cnt E m+if E m then 1 else 0:=by
   intro E;unfold cnt;rw [List.range_succ,List.filter_append,List.length_append]
   by_cases hE:E m <;> simp [hE]
  rw [step,step]
  by_cases hm:m=i
  ·subst hm
   have e1:cnt (fun j=>j==m||D j) m=cnt D m:=by
    unfold cnt
    congr 1
    apply List.filter_congr;intro x hx;have:=List.mem_range.1 hx;have:(x==m)=false:=by simp;omega
    simp [this]
   rw [e1];simp [hD]
  ·rw [cnt_add D i hD m (by omega)]
   have:(m==i)=false:=by simpa using hm
   simp only [this,Bool.false_or];omega
theorem cnt_full(D:Nat->Bool):∀ m,m<=cnt D m->∀ j,j<m->D j=true
 | 0,h,j,hj=>by omega
 | m+1,h,j,hj=>by
  have step:cnt D (m+1)=cnt D m+if D m then 1 else 0:=by
   unfold cnt;rw [List.range_succ,List.filter_append,List.length_append]
   by_cases hE:D m <;> simp [hE]
  have hle:=cnt_le D m;rw [step] at h
  by_cases hE:D m=true
  ·by_cases hjm:j=m
   ·subst hjm;exact hE
   ·rw [if_pos hE] at h
    exact cnt_full D m (by omega) j (by omega)
  ·rw [if_neg hE] at h;omega
theorem find_congr{α:Type}{p q:α->Bool}:∀ (l:List α),(∀ x∈l,p x=q x)->l.find? p=l.find? q
 | [],h=>rfl
 | x::l,h=>by
  rw [List.find?_cons,List.find?_cons,h x List.mem_cons_self,find_congr l fun y hy=>h y (List.mem_cons_of_mem _ hy)]
theorem W4(ops:List Oper)(m:Nat)(V:Nat->AV)(e:Env){D E:Nat->Bool}(h:∀ j,j<m->D j=E j):Z8 ops m V e D=Z8 ops m V e E:=by
 funext t
 unfold Z8;rw [find_congr (q:=fun j=>E j&&((ops[j]?).bind (·.dst)==some t)) (List.range m) fun j hj=>by rw [h j (List.mem_range.1 hj)]]
theorem any_quiet(ro:Option Nat)(hok:Yw ops m=true){e:Env}{s:Hp}{V:Nat->AV}{n:Fr}{I0:Imm}{w0:World}(Q:Exit->Act->World->Prop)(hd:∀ o∈ops,isDefer o.op=false/\∀ d,o.dst=some d->d<n.1)(hV:∀ i o,i<m->ops[i]? = some o->qop P ops o (Z8 ops m V e (fun j=>decide (j<i))) s (V i))(hend:∀ J a w,EnvRel J n a (Z8 ops m V e (fun j=>decide (j<m)))->Rel J s w->Ext I0 s w0 J s w->wpListIn (fw ro) 0 P ops.toArray Q (ops.drop m) a w):
  ∀ (q:Nat) (listed:Array Bool) (J:Imm) (a:Act) (w:World),listed.size=ops.length->(∀ j,j<ops.length->m<=j->listed.getD j true=false) ->
   (∀ j o,listed.getD j false=true->ops[j]? = some o->∀ p∈prs o,listed.getD p false=true) ->
   cnt (fun j=>listed.getD j false) m+q=ops.length->EnvRel J n a (Z8 ops m V e (fun j=>listed.getD j false))->Rel J s w->Ext I0 s w0 J s w ->
   wpAnyIn (fw ro) 0 P .any ops.toArray Q q listed a w:=by
 obtain ⟨hm,hparts⟩:=X9 hok;intro q
 induction q with
 | zero =>
  intro listed J a w hsz hhi hcl hq he hs hx;have hc:=cnt_le (fun j=>listed.getD j false) m
  have hmN:m=ops.length:=by omega
  have hall:=cnt_full (fun j=>listed.getD j false) m (by omega)
  refine any_tail ro hok Q 0 m listed a w (by omega) (Nat.le_refl _) hsz (fun j hj=>?_) (hend J a w ?_ hs hx)
  ·have:=hall j (by omega)
   have e1:listed.getD j true=listed.getD j false:=by simp [Array.getD,hsz,hj]
   rw [e1,this];simp;omega
  ·rw [<- W4 ops m V e (D:=fun j=>listed.getD j false) (E:=fun j=>decide (j<m)) (fun j hj=>by
    have h1:listed.getD j false=true:=hall j hj;rw [h1];simp [hj])];exact he
 | succ q ih =>
  intro listed J a w hsz hhi hcl hq he hs hx
  by_cases hall:∀ j,j<m->listed.getD j false=true
  ·
   have hc:=cnt_all (fun j=>listed.getD j false) m hall
   refine any_tail ro hok Q (q+1) m listed a w (by omega) (Nat.le_refl _) hsz (fun j hj=>?_) (hend J a w ?_ hs hx)
   ·by_cases hjm:j<m
    ·have:=hall j hjm
     have e1:listed.getD j true=listed.getD j false:=by simp [Array.getD,hsz,hj]
     rw [e1,this];simp [hjm]
    ·rw [hhi j hj (by omega)];simp;omega
   ·rw [<- W4 ops m V e (D:=fun j=>listed.getD j false) (E:=fun j=>decide (j<m)) (fun j hj=>by
    have h1:listed.getD j false=true:=hall j hj;rw [h1];simp [hj])];exact he
  ·
   have hex:∃ i,i<m/\listed.getD i false=false:=by
    apply Classical.byContradiction;intro hne;apply hall;intro j hj
    cases hv:listed.getD j false with
    | true=>rfl
    | false=>exact absurd ⟨j,hj,hv⟩ hne
   obtain ⟨i0,⟨hi0m,hi0⟩,hleast⟩:=Xw _ hex;have hi0N:i0<ops.length:=by omega
   have hother:∀ j,j<ops.length->listed.getD j true=listed.getD j false:=fun j hj=>by simp [Array.getD,hsz,hj]
   have hready0:i0∈Region.ready .any ops.toArray listed:=by
    refine mem_ready.2 ⟨hi0N,by rw [hother _ hi0N,hi0],_,List.getElem?_eq_getElem hi0N,fun p hp=>?_⟩
    have hp0:=(hparts i0 _ (List.getElem?_eq_getElem hi0N)).1 p hp
    cases hv:listed.getD p false with
    | true=>rfl
    | false=>have:=hleast p ⟨by omega,hv⟩;omega
   refine ⟨fun hnil=>by rw [hnil] at hready0;simp at hready0,fun i hi=>?_⟩
   obtain ⟨hiN,hil,o,ho,hpre⟩:=mem_ready.1 hi;have hil':listed.getD i false=false:=by rw [<- hother i hiN];exact hil
   have him:i<m:=by
    apply Classical.byContradiction;intro hge;have hr:=(hparts i o ho).2.2 (by omega) i0 (by omega)
    have:=Ys (D:=fun j=>listed.getD j false) hcl _ i i0 o ho hpre hr
    rw [hi0] at this;simp at this
   have hq1:=qop_any hok him ho (fun j hj hr=>Ys (D:=fun j=>listed.getD j false) hcl _ i j o ho hpre hr) hil' (hV i o him ho)
   have hoa:ops.toArray[i]? = some o:=by simpa using ho
   unfold wpOpIn;rw [hoa];refine qop_wp hq1 he hs ro (hd o (List.mem_of_getElem? ho)).1 _ Q fun v J' w' h1 h2 h3=>?_
   have hset:∀ j,(listed.setIfInBounds i true).getD j false=(j==i||listed.getD j false):=by
    intro j;simp only [Array.getD_eq_getD_getElem?]
    by_cases hji:i=j
    ·subst hji
     rw [Array.getElem?_setIfInBounds_self_of_lt (by rw [hsz];exact hiN)]
     simp
    ·rw [Array.getElem?_setIfInBounds_ne hji]
     have:(j==i)=false:=by simpa using fun h=>hji h.symm
     simp [this]
   have hfun:(fun j=>(listed.setIfInBounds i true).getD j false)=(fun j=>j==i||listed.getD j false):=funext hset
   refine ih _ J' _ w' (by simp [hsz]) (fun j hj hmj=>?_) (fun j o' hj ho' p hp=>?_) ?_ ?_ h2 (hx.trans h3)
   ·have:=hhi j hj hmj
    simp only [Array.getD_eq_getD_getElem?] at this ⊢;rw [Array.getElem?_setIfInBounds_ne (by omega)];exact this
   ·rw [hset] at hj ⊢
    simp only [Bool.or_eq_true,beq_iff_eq] at hj ⊢
    rcases hj with rfl | hj
    ·rw [ho] at ho';injection ho' with ho';subst ho'
     exact .inr (hpre p hp)
    ·exact .inr (hcl j o' hj ho' p hp)
   ·rw [hfun,cnt_add (fun j=>listed.getD j false) i hil' m him];omega
   ·rw [hfun]
    have:=slotsAt_put (V:=V) (e:=e) (D:=fun j=>listed.getD j false) (i:=i) (o:=o) him ho (fun j q hj hne hq d hd'=>((hparts i o ho).2.1 him j q d hj hne hq hd').1)
    rw [<- this];exact (he.mono h3.imm).put o.dst (fun d hd'=>(hd o (List.mem_of_getElem? ho)).2 d hd') h1
end
theorem AW.draw{P:Program}{ro:Option Nat}{n:Nat}{id:Nat}{ops:List Oper}{e:Env}{s:Hp}{Q:AX->Env->Hp->Prop}(m:Nat)(hf:P.follows .mixedOrders=true)(hok:Yw ops m=true)(hd:okOps n ops=true)(h:qops P ops (ops.take m) e s (fun e'=>OpsS P ops (ops.drop m) e' s (fun e'' t=>Q .norm e'' t))):AW ro P n (.region id ops.toArray true) e s Q:=by
 intro ds I w a he hs hir;obtain ⟨V,hK,hV⟩:=qops_vals hok h;refine wpIn_region_any hf ?_
 have hsz:(Array.replicate ops.toArray.size false).size=ops.length:=by simp
 have hrep:∀ j,(Array.replicate ops.toArray.size false).getD j false=false:=by
  intro j;simp only [Array.getD_eq_getD_getElem?,Array.getElem?_replicate]
  split <;> rfl
 have hcnt:cnt (fun j=>(Array.replicate ops.toArray.size false).getD j false) m=0:=by
  unfold cnt;rw [List.length_eq_zero_iff,List.filter_eq_nil_iff];intro x hx;rw [hrep];simp
 have hlen:ops.toArray.size=ops.length:=by simp
 refine any_quiet ro hok (n:=(n,ds)) (I0:=I) (w0:=w) _ (okOps_at hd) hV (fun J a' w' h1 h2 h3=>?_) ops.toArray.size _ I a _ hsz (fun j hj hmj=>?_) (fun j o hj=>?_) (by rw [hcnt,hlen];omega) ?_ hs.drew (Ext.drew I s w)
 ·refine hK ro (n,ds) J w' a' h1 h2 (fun o ho=>okOps_at hd o (List.mem_of_mem_drop ho)) _ fun e'' t J2 a2 w2 q1 q2 q3 q4=>?_
  exact ⟨.norm,e'',t,J2,ds,trivial,q4,q1,q2,h3.trans q3,Marks.refl _ _ _ _ _⟩
 ·simp only [Array.getD_eq_getD_getElem?,Array.getElem?_replicate]
  rw [if_pos (by rw [hlen];exact hj)];rfl
 ·rw [hrep] at hj;simp at hj
 ·have:Z8 ops m V e (fun j=>(Array.replicate ops.toArray.size false).getD j false)=e:=by
   funext t
   unfold Z8;rw [List.find?_eq_none.2 (fun x hx=>by
    have h1:(Array.replicate ops.toArray.size false).getD x false=false:=hrep x;simp only [h1];simp)]
  rw [this];exact he
theorem AW.drw{P:Program}{ro:Option Nat}{n:Nat}{id:Nat}{ops:List Oper}{e:Env}{s:Hp}{Q:AX->Env->Hp->Prop}(m:Nat)(hf:P.follows .mixedOrders=true)(hok:Yw ops m=true)(hd:okOps n ops=true)(h:qops P ops (ops.take m) e s (fun e'=>Yj P ops (ops.drop m) e' s (fun e'' t=>Q .norm e'' t))):AW ro P n (.region id ops.toArray true) e s Q:=by
 refine .draw m hf hok hd ?_
 have key:∀ (l:List Oper) (e:Env) (K L:Env->Prop),(∀ e,K e->L e)->qops P ops l e s K->qops P ops l e s L:=by
  intro l
  induction l with
  | nil=>intro e K L hk h;exact hk e h
  | cons o l ih=>intro e K L hk ⟨r,h1,h2⟩;exact ⟨r,h1,ih _ K L hk h2⟩
 exact key _ _ _ _ (fun e' h=>aops_sound _ h) h
end Go.Eng
namespace Go.Eng
theorem Za(e:Env)(t:Nat)(x:AV)(s:Nat):(e.upd t x) s=if s=t then x else e s:=rfl
theorem Xa(as:List AV)(t:Nat):entry as t=as.getD t (.v undef):=rfl
theorem Zh(e:Env)(t:Nat)(x:AV):e.put (some t) x=e.upd t x:=rfl
theorem put_none(e:Env)(x:AV):e.put none x=e:=rfl
theorem Zq(k:Nat)(o:AObj)(s:Hp)(b:Nat):Hp.get ((k,o)::s) b=if k=b then some o else Hp.get s b:=by
 unfold Hp.get;rw [List.find?_cons]
 by_cases h:k=b
 ·simp [h]
 ·have:(k==b)=false:=by simpa using h
  simp [h,this]
theorem Ym(k:Nat)(o:AObj)(s:Hp)(b:Nat)(o':AObj):Hp.set ((k,o)::s) b o'=(if k=b then (b,o') else (k,o))::Hp.set s b o':=rfl
def Rets(P:Program)(f:FuncId)(as:List AV)(r:AV):Prop:=∀ (s:Hp) (K:AV->Hp->Prop),K r s->Meets P f as s K
theorem Meets.garb{P:Program}{f:FuncId}{as:List AV}{s:Hp}{K:AV->Hp->Prop}(h:Meets P f as s (fun r t=>∃ t',(∀ p,p∈t'->p∈t)/\(t.keys.Nodup->t'.keys.Nodup)/\K r t')):Meets P f as s K:=
 fun I w vs hs ha=>(h I w vs hs ha).mono fun v w' ⟨r,t,J,⟨t',h1,h2,h3⟩,q2,q3,q4⟩=>⟨r,t',J,h3,q2.sub h1 (h2 q2.nodup),q3,q4.sub h1⟩
theorem Meets.alone{P:Program}{f:FuncId}{as:List AV}{s:Hp}{K:AV->Hp->Prop}(h:Meets P f as [] (fun r t=>K r s)):Meets P f as s K:=
 Meets.pure (Meets.garb (h.mono fun r t hk=>⟨[],fun p hp=>by simp at hp,fun _=>List.nodup_nil,rfl,hk⟩))
theorem Rets.of{P:Program}{f:FuncId}{as:List AV}{r:AV}(h:Meets P f as [] (fun r' t=>r'=r)):Rets P f as r:=
 fun s K hk=>Meets.alone (h.mono fun r' t h1=>by rw [h1];exact hk)
theorem AW.lenle{P:Program}{ro:Option Nat}{n:Nat}{c:Code}{e:Env}{s:Hp}{Q:AX->Env->Hp->Prop}(t:Nat){k:Nat}{xs:List AV}(ht:e t=.sl k xs)(h:xs.length<=big->AW ro P n c e s Q):AW ro P n c e s Q:=
 fun ds I w a he hs hir=>h (by
  have:=he.rv t;rw [ht] at this;generalize a.tmps.getD t undef=v at this
  cases this with
  | sl a' m c k xs f hn hc hb hl ha hm hr=>omega) ds I w a he hs hir
theorem wrap_i64{x:Int}(h0:-9223372036854775808<=x)(h1:x<=9223372036854775807):IntKind.i64.wrap x=x:=by
 have e1:IntKind.i64.bits=64:=rfl;have e2:IntKind.i64.signed=true:=rfl;simp only [IntKind.wrap,e1,e2,Bool.true_and];have e3:(2:Int) ^ 64=18446744073709551616:=by decide
 have e4:(2:Int) ^ (64-1)=9223372036854775808:=by decide
 rw [e3,e4]
 split <;> rename_i h <;> simp only [ge_iff_le,decide_eq_true_eq] at h <;> omega
theorem wrap_u8(x:Int):IntKind.u8.wrap x=x % 256:=by
 have e1:IntKind.u8.bits=8:=rfl;have e2:IntKind.u8.signed=false:=rfl;simp only [IntKind.wrap,e1,e2,Bool.false_and];have e3:(2:Int) ^ 8=256:=by decide
 rw [e3];simp
theorem one_v(x:Value):AV.one (.v x)=x.oneCell':=rfl
theorem one_sl(k:Nat)(xs:List AV):AV.one (.sl k xs)=true:=rfl
theorem one_ifc(t:TypeId)(x:AV):AV.one (.ifc t x)=true:=rfl
theorem cells_agg(us:List AV):cellsOf (.agg us)=us:=rfl
theorem cells_v(x:Value):cellsOf (.v x)=[.v x]:=rfl
theorem cells_sl(k:Nat)(xs:List AV):cellsOf (.sl k xs)=[.sl k xs]:=rfl
theorem cells_ifc(t:TypeId)(x:AV):cellsOf (.ifc t x)=[.ifc t x]:=rfl
theorem AW.nodup{P:Program}{ro:Option Nat}{n:Nat}{c:Code}{e:Env}{s:Hp}{Q:AX->Env->Hp->Prop}(h:s.keys.Nodup->AW ro P n c e s Q):AW ro P n c e s Q:=
 fun ds I w a he hs hir=>h hs.nodup ds I w a he hs hir
theorem Meets.nodup{P:Program}{f:FuncId}{as:List AV}{s:Hp}{K:AV->Hp->Prop}(h:s.keys.Nodup->Meets P f as s K):Meets P f as s K:=
 fun I w vs hs ha=>h hs.nodup I w vs hs ha
theorem Meets.lenle{P:Program}{f:FuncId}{as:List AV}{s:Hp}{K:AV->Hp->Prop}(j:Nat){k:Nat}{xs:List AV}(hj:as[j]? = some (.sl k xs))(h:xs.length<=big->Meets P f as s K):Meets P f as s K:=
 fun I w vs hs ha=>h (by
  have:=ha.rv j _ hj;generalize vs.getD j undef=v at this
  cases this with
  | sl a' m c k xs f hn hc hb hl ha hm hr=>omega) I w vs hs ha
def YieldS(P:Program)(l:Nat)(as:List AV)(s:Hp)(K:AV->Hp->Prop):Prop:=
 ∀ I w vs,Rel I s w->RVs I vs as->∃ fn tm assign body,(Instr.yield l vs).run P w=.ok (.round l fn tm assign body) w /\
  RoundIn (fw none) 0 P l fn tm assign body w (fun e w'=>∃ v,e=.returned v/\∃ r t J,K r t/\Rel J t w'/\RV J v r/\Ext I s w J t w')
theorem YieldS.mono{P:Program}{l:Nat}{as:List AV}{s:Hp}{K L:AV->Hp->Prop}(h:YieldS P l as s K)(hk:∀ r t,K r t->L r t):YieldS P l as s L:=
 fun I w vs hs ha=>by
  obtain ⟨fn,tm,assign,body,h1,h2⟩:=h I w vs hs ha;exact ⟨fn,tm,assign,body,h1,h2.mono fun e w' ⟨v,q0,r,t,J,q1,q2⟩=>⟨v,q0,r,t,J,hk r t q1,q2⟩⟩
def putAll:Env->List Nat->List AV->Env
 | e,p::ps,u::us=>putAll (e.upd p u) ps us
 | e,_,_=>e
theorem putAll_rel{I:Imm}{n:Nat}:∀ (ps:List Nat) (vs:List Value) (us:List AV) (e:Env) (tm:Array Value),tm.size=n->(∀ t,RV I (tm.getD t undef) (e t))->(∀ p∈ps,p<n)->ps.length=vs.length->vs.length=us.length ->
  (∀ (j:Nat) (v:Value) (u:AV),vs[j]? = some v->us[j]? = some u->RV I v u) ->
  ((ps.zip vs).foldl (fun t (p:Nat × Value)=>t.setIfInBounds p.1 p.2) tm).size=n/\∀ t,RV I (((ps.zip vs).foldl (fun t (p:Nat × Value)=>t.setIfInBounds p.1 p.2) tm).getD t undef) (putAll e ps us t)
 | [],vs,us,e,tm,h1,h2,_,h3,h4,h5=>by
  have:vs=[]:=List.eq_nil_of_length_eq_zero h3.symm;subst this;have:us=[]:=List.eq_nil_of_length_eq_zero h4.symm;subst this;exact ⟨h1,h2⟩
 | p::ps,[],us,e,tm,h1,h2,_,h3,h4,h5=>by simp at h3
 | p::ps,v::vs,[],e,tm,h1,h2,_,h3,h4,h5=>by simp at h4
 | p::ps,v::vs,u::us,e,tm,h1,h2,hp,h3,h4,h5=>by
  simp only [List.zip_cons_cons,List.foldl_cons,putAll];refine putAll_rel ps vs us (e.upd p u) _ (by simpa using h1) (fun t=>?_) (fun q hq=>hp q (List.mem_cons_of_mem _ hq)) (by simpa using h3) (by simpa using h4) (fun j v u hj hu=>h5 (j+1) v u (by simpa using hj) (by simpa using hu))
  have hpn:=hp p List.mem_cons_self;simp only [Env.upd]
  by_cases ht:t=p
  ·subst ht
   rw [if_pos rfl];have hlt:t<tm.size:=by rw [h1];exact hpn
   have:=h5 0 v u rfl rfl;simpa [Array.getD,hlt] using this
  ·rw [if_neg ht]
   have:=h2 t;simp only [Array.getD_eq_getD_getElem?] at this ⊢
   rwa [Array.getElem?_setIfInBounds_ne (fun e=>ht e.symm)]
def YEnd(l:Nat)(rec:Loop)(n:Nat)(e0:Env)(K:AV->Hp->Prop):AX->Env->Hp->Prop
 | .norm,_,t=>K (.v (.bool true)) ((l,.lp rec n e0)::t)
 | .ret,_,t=>K (.v (.bool false)) ((l,.lp { rec with state:=.done,pending:=some .ret } n e0)::t)
 | .exit id,_,t=>K (.v (.bool false)) ((l,.lp { rec with state:=.done,pending:=some (.exit id) } n e0)::t)
theorem YieldS.of{P:Program}{l:Nat}{rec:Loop}{n:Nat}{e0:Env}{as:List AV}{s:Hp}{K:AV->Hp->Prop}(hready:rec.state=.ready)(hpend:rec.pending=none)(hps:rec.params.size=as.length)(hlt:∀ p∈rec.params.toList,p<n)(h:AW (some l) P n rec.assign (putAll e0 rec.params.toList as) s (fun ax e1 t1=>ax=.norm/\AW (some l) P n rec.body e1 t1 (YEnd l rec n e0 K))):
  YieldS P l as ((l,.lp rec n e0)::s) K:=by
 intro I w vs hs ha;obtain ⟨hl,hn,hrv⟩:=hs.obj l _ List.mem_cons_self;have hnd:=hs.nodup;obtain ⟨hls,hnds⟩:=List.nodup_cons.1 (show (l::s.keys).Nodup from hnd)
 have hIl:I l=none:=hs.free l List.mem_cons_self;have hss:Rel I s w:=hs.sub (fun p hp=>List.mem_cons_of_mem _ hp) hnds
 refine ⟨rec.fn,_,rec.assign,rec.body,run_yield hl (by rw [ha.len,hps]),roundIn_of_wpIn (F:=fw none) trivial ?_⟩
 obtain ⟨htm,hev⟩:=putAll_rel (I:=I) (n:=n) rec.params.toList vs.toList as e0 rec.tmps hn hrv hlt (by simp [ha.len,hps]) (by simp [ha.len]) (fun j v u hj hu=>by
  have:=ha.rv j u hu;have e1:vs.getD j undef=v:=by
   have hj':vs[j]? = some v:=by simpa using hj
   simp [hj']
  rwa [e1] at this)
 have hfold:(Array.foldl (fun tmps x=>match x with | (t,a)=>tmps.setIfInBounds t a) rec.tmps (rec.params.zip vs))=((rec.params.toList.zip vs.toList).foldl (fun t (p:Nat × Value)=>t.setIfInBounds p.1 p.2) rec.tmps):=by
  rw [<- Array.foldl_toList,Array.toList_zip]
 rw [hfold];have he0:EnvRel I (n,[]) { tmps:=(rec.params.toList.zip vs.toList).foldl (fun t (p:Nat × Value)=>t.setIfInBounds p.1 p.2) rec.tmps,defers:=[] } (putAll e0 rec.params.toList as):=⟨htm,rfl,hev⟩
 have hir:InRound (some l) I s w:=fun l' hl'=>by
  injection hl' with hl';subst hl'
  exact ⟨⟨rec,hl⟩,hls,hIl⟩
 refine wpIn_mono (h [] I w _ he0 hss hir) ?_
 rintro x a1 w1 ⟨ax,e1,t1,J1,ds1,q1,⟨rfl,q2⟩,q3,q4,q5,q6⟩
 cases x <;> simp only [AX.rel] at q1
 simp only [Exit.then];have hir1:=hir.after q5;have hlw:=heap_lt hl;have hl1:w1.heap[l]? = some (.loop rec):=(q5.frame l hlw hls).trans hl;obtain ⟨_,hlt1,hJ1⟩:=hir1 l rfl;refine ⟨_,run_beginRound hl1 hready,?_⟩;have hother:∀ (o:Obj) (v:World) (b:Nat),b≠l->(v.putObj l o).heap[b]? = v.heap[b]?:=fun o v b hb=>World.putObj_heap_other hb
 have relPut:∀ (o:Obj) (J:Imm) (t:Hp) (v:World),Rel J t v->l∉t.keys->J l=none->Rel J t (v.putObj l o):=fun o J t v hr hk hJ=>by
  refine ⟨fun b ob hb=>?_,fun b ob hb=>?_,hr.free,hr.nodup,hr.gnd⟩
  ·rw [hother o v b (fun e=>by subst e;rw [hJ] at hb;simp at hb)];exact hr.imm b ob hb
  ·exact (hr.obj b ob hb).move (hother o v b (fun e=>by subst e;exact hk (List.mem_map.2 ⟨_,hb,rfl⟩))) (Imm.le_refl _)
 have q4':=relPut (.loop { rec with state:=.busy }) J1 t1 w1 q4 hlt1 hJ1
 have hlw1:=heap_lt hl1;have hir2:InRound (some l) J1 t1 (w1.putObj l (.loop { rec with state:=.busy })):=fun l' hl'=>by
  injection hl' with hl';subst hl'
  exact ⟨⟨_,World.putObj_heap_same hlw1⟩,hlt1,hJ1⟩
 refine wpIn_mono (q2 ds1 J1 _ a1 q3 q4' hir2) ?_
 rintro x a2 w2 ⟨ax,e2,t2,J2,ds2,r1,r2,r3,r4,r5,r6⟩;obtain ⟨_,hlt2,hJ2⟩:=hir2.after r5 l rfl;have hl2:w2.heap[l]? = some (.loop { rec with state:=.busy }):=(r5.frame l (by rw [World.putObj_size];exact hlw1) hlt1).trans (World.putObj_heap_same hlw1)
 have hlw2:=heap_lt hl2;have fin:∀ (jump:Option Code) (r:AV),RV J2 (.bool jump.isNone) r->K r ((l,.lp { rec with state:=if jump.isNone then .ready else .done,pending:=jump } n e0)::t2) ->
   ∃ v w',(Instr.endRound l jump).run P w2=.ok v w'/\∃ v',Ending.returned v=.returned v'/\∃ r t J,K r t/\Rel J t w'/\RV J v' r/\Ext I ((l,.lp rec n e0)::s) w J t w':=by
  intro jump r hr hk;refine ⟨_,_,run_endRound jump hl2,_,rfl,r,_,J2,hk,?_,hr,?_⟩
  ·have hb:=relPut (.loop { rec with state:=if jump.isNone then .ready else .done,pending:=jump }) J2 t2 w2 r4 hlt2 hJ2
   refine ⟨hb.imm,fun b o hbo=>?_,fun b hb'=>?_,List.nodup_cons.2 ⟨hlt2,r4.nodup⟩,hb.gnd⟩
   ·rcases List.mem_cons.1 hbo with hbo | hbo
    ·injection hbo with e1 e2
     subst e1;subst e2;exact ⟨World.putObj_heap_same hlw2,hn,fun t=>((hrv t).mono q5.imm).mono r5.imm⟩
    ·exact hb.obj b o hbo
   ·rcases List.mem_cons.1 (show b∈l::t2.keys from hb') with hb' | hb'
    ·rw [hb'];exact hJ2
    ·exact r4.free b hb'
  ·have hx:=q5.trans (show Ext J1 t1 w1 J1 t1 w1 from Ext.refl _ _ _)
   refine ⟨r5.os.trans q5.os,r5.tape.trans q5.tape,r5.output.trans q5.output,?_,fun b hb hk=>?_,Imm.le_trans q5.imm r5.imm,fun b hb=>?_,fun b h1 h2=>?_⟩
   ·have:=q5.size;have:=r5.size;rw [World.putObj_size] at this ⊢;omega
   ·have hbl:b≠l:=fun e=>hk (by subst e;exact List.mem_cons_self)
    have hbs:b∉s.keys:=fun h=>hk (List.mem_cons_of_mem _ h)
    have hbt:b∉t1.keys:=fun h=>by
     rcases q5.own b h with h | h
     ·omega
     ·exact hbs h
    have hsz:=q5.size;rw [hother _ w2 b hbl,r5.frame b (by rw [World.putObj_size];omega) hbt,hother _ w1 b hbl,q5.frame b hb hbs]
   ·rcases List.mem_cons.1 (show b∈l::t2.keys from hb) with hb | hb
    ·exact .inr (by rw [hb];exact List.mem_cons_self)
    ·rcases r5.own b hb with h | h
     ·rw [World.putObj_size] at h;exact .inl (Nat.le_trans q5.size h)
     ·rcases q5.own b h with h | h
      ·exact .inl h
      ·exact .inr (List.mem_cons_of_mem _ h)
   ·by_cases hj:J1 b=none
    ·rcases r5.newimm b hj h2 with h | h
     ·rw [World.putObj_size] at h;exact .inl (Nat.le_trans q5.size h)
     ·rcases q5.own b h with h | h
      ·exact .inl h
      ·exact .inr (List.mem_cons_of_mem _ h)
    ·rcases q5.newimm b h1 hj with h | h
     ·exact .inl h
     ·exact .inr (List.mem_cons_of_mem _ h)
 cases x <;> cases ax <;> simp only [AX.rel] at r1
 ·refine fin none (.v (.bool true)) (.v _) ?_
  have:({ rec with state:=if (none:Option Code).isNone then .ready else .done,pending:=none }:Loop)=rec:=by
   cases rec;simp_all
  rw [this];exact r2
 ·subst r1
  exact fin (some _) (.v (.bool false)) (.v _) r2
 ·exact fin (some _) (.v (.bool false)) (.v _) r2
def ayield(P:Program)(ops:List Oper)(k:Nat)(e:Env)(s:Hp)(K:Env->Hp->Prop):Prop:=
 match ops[k]? with
 | some o=>o.guard=none/\match o.op with
  | .call { callee:=.value x,args:=args,.. }=>Yj P ops (ops.take k) e s fun e1 s1=>∃ l,ev e1 x=.v (.func (.yield l) #[] #[]) /\
    YieldS P l (args.toList.map (ev e1)) s1 fun r s2=>Yj P ops (ops.drop (k+1)) (e1.put o.dst r) s2 K
  | _=>False
 | none=>False
theorem AW.yield{P:Program}{ro:Option Nat}{n:Nat}{id:Nat}{ops:List Oper}{e:Env}{s:Hp}{Q:AX->Env->Hp->Prop}(k:Nat)(hd:okOps n ops=true)(h:ayield P ops k e s (fun e' t=>Q .norm e' t)):AW ro P n (.region id ops.toArray false) e s Q:=by
 unfold ayield at h
 split at h
 ·rename_i o hk
  obtain ⟨hg,h⟩:=h
  split at h
  ·rename_i x args ts ho
   have hkl:k<ops.length:=(List.getElem?_eq_some_iff.1 hk).1;have hsplit:ops.take k++(o::ops.drop (k+1))=ops:=by
    have:ops[k]=o:=(List.getElem?_eq_some_iff.1 hk).2;rw [<- this,List.getElem_cons_drop,List.take_append_drop]
   have hok:=okOps_at hd;intro ds I w a he hs hir;refine wpIn_region_lit ?_
   have walk:∀ (l:List Oper) (K:Env->Hp->Prop) (R:Exit->Act->World->Prop) (e:Env) (s:Hp) (I:Imm) (w:World) (a:Act),(∀ o∈l,isDefer o.op=false/\∀ d,o.dst=some d->d<n)->Yj P ops l e s K->EnvRel I (n,ds) a e->Rel I s w ->
     ∀ tail,(∀ e' t J a' w',EnvRel J (n,ds) a' e'->Rel J t w'->Ext I s w J t w'->K e' t->wpListIn (fw ro) 0 P ops.toArray R tail a' w')->wpListIn (fw ro) 0 P ops.toArray R (l++tail) a w:=by
    intro l
    induction l with
    | nil=>intro K R e s I w a hl h he hs tail ht;exact ht e s I a w he hs (Ext.refl _ _ _) h
    | cons o l ih =>
     intro K R e s I w a hl h he hs tail ht;have ho:=hl o List.mem_cons_self;rw [List.cons_append];have step:∀ (op:aop P o.op e s fun r t=>Yj P ops l (e.put o.dst r) t K),∀ (K':Act->World->Prop),(∀ a w,wpListIn (fw ro) 0 P ops.toArray R (l++tail) a w->K' a w)->o.wpIn (fw ro) 0 P a w K' R:=by
      intro op K' hK';refine op_wpIn ro 0 ho.1 (aop_sound op (n,ds) I w a he hs K' R fun v r t J w' h1 h2 h3 h4=>hK' _ _ ?_)
      exact ih K R _ t J w' _ (fun o' ho'=>hl o' (List.mem_cons_of_mem _ ho')) h4 ((he.mono h3.imm).put o.dst (fun d hd'=>ho.2 d hd') h1) h2 tail fun e' t' J' a' w'' q1 q2 q3 q4=>ht e' t' J' a' w'' q1 q2 (h3.trans q3) q4
     have rest:∀ (op:Yj P ops l (e.put o.dst (.v undef)) s K),wpListIn (fw ro) 0 P ops.toArray R (l++tail) (a.put o.dst undef) w:=fun op =>
      ih K R _ s I w _ (fun o' ho'=>hl o' (List.mem_cons_of_mem _ ho')) op (he.put o.dst (fun d hd'=>ho.2 d hd') (.v _)) hs tail ht
     unfold Yj at h
     split at h
     ·rename_i hg
      exact wpListIn_plain hg fun K' hK'=>step h K' hK'
     ·rename_i j want hg
      split at h
      ·rename_i b hb
       unfold Xi at hb
       split at hb
       ·rename_i d hd'
        split at hb
        ·rename_i b' hed
         injection hb with hb;subst hb
         have hwant:Region.wanted o (yielded ops.toArray a.tmps)=(b'==want):=by
          have hv:=he.rv d;rw [hed] at hv;have hdn:a.tmps.getD d undef=.bool b':=hv.of_v;have:a.tmps[d]? = some (.bool b'):=by
           simp only [Array.getD_eq_getD_getElem?] at hdn
           cases hq:a.tmps[d]? with
           | none=>rw [hq] at hdn;simp [undef] at hdn
           | some y=>rw [hq] at hdn;simp at hdn;rw [hdn]
          have hj':(ops.toArray[j]?).bind (·.dst)=some d:=by simpa using hd'
          simp only [Region.wanted,hg,yielded,hj',Option.bind_some,this]
          cases b' <;> cases want <;> rfl
         refine wpListIn_step fun K' hK'=>?_
         by_cases hbw:b'=want
         ·rw [if_pos (by rw [hwant];simpa using hbw)]
          rw [if_pos hbw] at h;exact step h K' hK'
         ·rw [if_neg (by rw [hwant];simpa using hbw)]
          rw [if_neg hbw] at h;exact ⟨fun _ _=>trivial,hK' _ _ (rest h)⟩
        ·simp at hb
       ·simp at hb
      ·exact h.elim
   have key:=walk (ops.take k) _ (fun x a' w'=>∃ ax e' t J ds',AX.rel x ax/\Q ax e' t/\EnvRel J (n,ds') a' e'/\Rel J t w'/\Ext I s w J t w'/\Marks J t w w' ds ds') e s I w a (fun o' ho'=>hok o' (List.mem_of_mem_take ho')) h he hs (o::ops.drop (k+1)) ?_
   ·rw [hsplit] at key;exact key
   ·intro e1 s1 J1 a1 w1 q1 q2 q3 q4
    obtain ⟨l,hx,q4⟩:=q4
    ·refine wpListIn_plain hg fun K' hK'=>⟨fun _ _=>trivial,?_⟩
     rw [Oper.semAt_eq _ _ _ (fun c hc=>by rw [hc] at ho;simp at ho)]
     have hv:=q1.ev x;rw [hx] at hv;have hrv:=RVs.map q1 args;obtain ⟨fn,tm,assign,body,r1,r2⟩:=q4 J1 w1 _ q2 hrv;have hexec:(execOp a1.eval o).run P w1=.ok (.round l fn tm assign body) w1:=by
      simp only [execOp,ho,resolve,Deferred.ofValue,hv.of_v,Sem.run_bind,Sem.run_pure,Result.andThen_ok,Go.invoke];simpa using r1
     rw [hexec,Oper.uponIn_round];refine ⟨fun h=>by simp [fw,Fence.wide] at h,?_⟩
     have r3:RoundIn (fw ro) (0-1) P l fn tm assign body w1 _:=r2;refine r3.mono ?_
     rintro x w2 ⟨v,rfl,r,t,J,g1,g2,g3,g4⟩;refine hK' _ _ ?_
     have fin:=walk (ops.drop (k+1)) _ (fun x a' w'=>∃ ax e' t J ds',AX.rel x ax/\Q ax e' t/\EnvRel J (n,ds') a' e'/\Rel J t w'/\Ext I s w J t w'/\Marks J t w w' ds ds') _ t J w2 (a1.put o.dst v) (fun o' ho'=>hok o' (List.mem_of_mem_drop ho')) g1
      ((q1.mono g4.imm).put o.dst (fun d hd'=>(hok o (List.mem_of_getElem? hk)).2 d hd') g3) g2 [] ?_
     ·rw [List.append_nil] at fin;exact fin
     ·intro e' t' J' a' w' f1 f2 f3 f4
      exact ⟨.norm,e',t',J',ds,trivial,f4,f1,f2,(q3.trans g4).trans f3,Marks.refl _ _ _ _ _⟩
  ·exact h.elim
 ·exact h.elim
def RfEnd(ro:Option Nat)(P:Program)(n:Nat)(e:Env)(l:Nat)(Q:AX->Env->Hp->Prop)(t:Hp):Prop:=
 ∃ t' rec,t=(l,.lp rec n e)::t'/\rec.state≠.busy/\match rec.pending with
  | none=>Q .norm e t'
  | some c=>AW ro P n c e t' Q
theorem AW.rangeFunc{P:Program}{ro:Option Nat}{n:Nat}{g:Operand}{ps:Array Tmp}{assign body:Code}{e:Env}{s:Hp}{Q:AX->Env->Hp->Prop}(f:FuncId)(first lb:Array Value)(hg:ev e g=.v (.func (.func f) first lb))(hf:∃ fn c,P.funcs[f]? = some fn/\fn.body=some c/\(fn.name == "runtime.NumGoroutine")=false)(h:∀ l rec,l∉s.keys->rec.state=.ready->rec.pending=none->rec.params=ps->rec.assign=assign->rec.body=body ->
   Meets P f (first.toList.map .v++[.v (.func (.yield l) #[] #[])]++lb.toList.map .v) ((l,.lp rec n e)::s) (fun r t=>RfEnd ro P n e l Q t)):
  AW ro P n (.rangeFunc g ps assign body) e s Q:=by
 intro ds I w a he hs hir;have hv:=he.ev g;rw [hg] at hv;have hge:a.eval g=.func (.func f) first lb:=hv.of_v;obtain ⟨fn,cc,hf1,hf2,hf3⟩:=hf;have hcallf:∀ vs w,(callFunc f vs).run P w=.ok (.enter f vs) w:=by
  intro vs w;have hname':¬ fn.name = "runtime.NumGoroutine":=by simpa using hf3
  simp [callFunc,hf1,hname',hf2]
 refine wpIn_rangeFunc ?_
 intro fnn _;have key:∀ (W1:World) (l:Nat) (mark:List Deferred) (rec:Loop) (extra:List Nat),(Instr.enterLoop fnn a.tmps ps assign body ro).run P w=.ok (l,mark) W1->rec.state=.ready->rec.pending=none->rec.params=ps->rec.assign=assign->rec.body=body->rec.tmps=a.tmps ->
   W1.heap[l]? = some (.loop rec)->w.heap.size<=l->(∀ b,b<w.heap.size->W1.heap[b]? = w.heap[b]?)->W1.os=w.os->W1.tape=w.tape->W1.output=w.output ->
   mark=extra.map (fun D=>({ target:=.collected D,args:=#[] }:Deferred))->extra.Nodup->(∀ D∈extra,w.heap.size<=D/\D≠l/\W1.heap[D]? = some (.deferred (some []))) ->
   ∃ (l:Nat) (mark:List Deferred) (w₁:World) (d:Deferred) (w₁':World) (f:FuncId) (args:Array Value) (w₂:World),
   (Instr.enterLoop fnn a.tmps ps assign body (fw ro).round).run P w=.ok (l,mark) w₁ /\
   (resolve a.eval (rangeCall g l) 0).run P w₁=.ok d w₁' /\
   (∀ f',Target.leads P w₁' d.target d.args=some f'->(fw ro).fn f') /\
   (invoke d.target d.args).run P w₁'=.ok (.enter f args) w₂ /\
   ((fw ro).depth.isSome=true->1<=0) /\
   CallsIn (fw ro) (0-1) P f args w₂ (rangePost (fw ro) 0 P l (fun x a' w'=>∃ ax e' t J ds',AX.rel x ax/\Q ax e' t/\EnvRel J (n,ds') a' e'/\Rel J t w'/\Ext I s w J t w'/\Marks J t w w' ds ds') { a with defers:=mark++a.defers }):=by
  intro W1 l mark rec extra henter r1 r2 r3 r4 r5 r6 hl hwl hold ho1 ho2 ho3 hmark hnd hex;refine ⟨l,mark,W1,{ target:=.fn (.func f) lb,args:=first++#[.func (.yield l) #[] #[]] },W1,f,first++#[.func (.yield l) #[] #[]]++lb,W1,henter,?_,fun _ _=>trivial,?_,fun h=>by simp [fw,Fence.wide] at h,?_⟩
  ·simp only [resolve,Deferred.ofValue,hge,Sem.run_pure]
   simp [Act.eval]
  ·unfold Go.invoke
   exact hcallf _ _
  ·have hls:l∉s.keys:=fun hk=>by have:=hs.lt hk;omega
   have hIl:I l=none:=by
    cases hI:I l with
    | none=>rfl
    | some o=>have:=hs.imm_lt hI;omega
   have hsz:w.heap.size<=W1.heap.size:=by have:=heap_lt hl;omega
   have hrel:Rel I ((l,.lp rec n e)::s) W1:=by
    refine ⟨fun b o hb=>by rw [hold b (hs.imm_lt hb)];exact hs.imm b o hb,fun b o hbo=>?_,fun b hb=>?_,List.nodup_cons.2 ⟨hls,hs.nodup⟩,hs.gnd⟩
    ·rcases List.mem_cons.1 hbo with hbo | hbo
     ·injection hbo with e1 e2
      subst e1;subst e2;exact ⟨hl,by rw [r6];exact he.size,fun t=>by rw [r6];exact he.rv t⟩
     ·exact (hs.obj b o hbo).move (hold b (hs.obj b o hbo).lt) (Imm.le_refl _)
    ·rcases List.mem_cons.1 (show b∈l::s.keys from hb) with hb | hb
     ·rw [hb];exact hIl
     ·exact hs.free b hb
   have hvs:RVs I (first++#[.func (.yield l) #[] #[]]++lb) (first.toList.map .v++[.v (.func (.yield l) #[] #[])]++lb.toList.map .v):=by
    refine ((RVs.flat I first).append ?_).append (RVs.flat I lb);exact RVs.flat I #[.func (.yield l) #[] #[]]
   rcases h l rec hls r1 r2 r3 r4 r5 I W1 _ hrel hvs with ⟨_,hc⟩ | ⟨v,w',hcall,_⟩
   ·have hc':CallsIn (fw ro) (0-1) P f _ W1 _:=(callsIn_wide (n:=0-1)).2 hc
    refine hc'.mono ?_
    rintro x w3 ⟨v,rfl,r,t,J,⟨t',rec',rfl,hst,q⟩,q2,q3,q4⟩;obtain ⟨hl3,hn3,hrv3⟩:=q2.obj l _ List.mem_cons_self;obtain ⟨hlt',hnd'⟩:=List.nodup_cons.1 (show (l::Hp.keys t').Nodup from q2.nodup)
    have hJl:J l=none:=q2.free l List.mem_cons_self;have hother:∀ b,b≠l->(w3.putObj l (.loop { rec' with state:=.exhausted })).heap[b]? = w3.heap[b]?:=fun b hb=>World.putObj_heap_other hb
    have hrel4:Rel J t' (w3.putObj l (.loop { rec' with state:=.exhausted })):=by
     refine ⟨fun b o hb=>?_,fun b o hb=>?_,fun b hb=>q2.free b (List.mem_cons_of_mem _ hb),hnd',q2.gnd⟩
     ·rw [hother b (fun e=>by subst e;rw [hJl] at hb;simp at hb)];exact q2.imm b o hb
     ·exact (q2.obj b o (List.mem_cons_of_mem _ hb)).move (hother b (fun e=>by subst e;exact hlt' (List.mem_map.2 ⟨_,hb,rfl⟩))) (Imm.le_refl _)
    have hext:Ext I s w J t' (w3.putObj l (.loop { rec' with state:=.exhausted })):=by
     refine ⟨q4.os.trans ho1,q4.tape.trans ho2,q4.output.trans ho3,?_,fun b hb hk=>?_,q4.imm,fun b hb=>?_,fun b h1 h2=>?_⟩
     ·rw [World.putObj_size];exact Nat.le_trans hsz q4.size
     ·rw [hother b (by omega),q4.frame b (by omega) (fun hk'=>by
       rcases List.mem_cons.1 (show b∈l::s.keys from hk') with h | h
       ·omega
       ·exact hk h),hold b hb]
     ·rcases q4.own b (List.mem_cons_of_mem _ hb) with h | h
      ·exact .inl (Nat.le_trans hsz h)
      ·rcases List.mem_cons.1 (show b∈l::s.keys from h) with h | h
       ·exact .inl (by omega)
       ·exact .inr h
     ·rcases q4.newimm b h1 h2 with h | h
      ·exact .inl (Nat.le_trans hsz h)
      ·rcases List.mem_cons.1 (show b∈l::s.keys from h) with h | h
       ·exact .inl (by omega)
       ·exact .inr h
    have hmk:Marks J t' w (w3.putObj l (.loop { rec' with state:=.exhausted })) ds (mark++ds):=by
     refine ⟨extra,by rw [hmark],hnd,fun D hD=>?_⟩
     obtain ⟨g1,g2,g3⟩:=hex D hD;have hDlt:=heap_lt g3;have hDs:D∉s.keys:=fun hk=>by have:=hs.lt hk;omega
     have hDk:D∉Hp.keys ((l,.lp rec n e)::s):=fun hk=>by
      rcases List.mem_cons.1 (show D∈l::s.keys from hk) with h | h
      ·exact g2 h
      ·exact hDs h
     have hID:I D=none:=by
      cases hI:I D with
      | none=>rfl
      | some o=>have:=hs.imm_lt hI;omega
     refine ⟨g1,by rw [hother D g2,q4.frame D hDlt hDk];exact g3,?_,fun hk=>?_⟩
     ·cases hJ:J D with
      | none=>rfl
      | some o =>
       rcases q4.newimm D hID (by rw [hJ];simp) with h | h
       ·omega
       ·exact absurd h hDk
     ·rcases q4.own D (List.mem_cons_of_mem _ hk) with h | h
      ·omega
      ·exact hDk h
    have hea:EnvRel J (n,mark++ds) { a with defers:=mark++a.defers } e:=⟨he.size,by show mark++a.defers=mark++ds;rw [he.defers],fun t=>(he.rv t).mono q4.imm⟩
    refine ⟨rec'.pending,_,run_endLoop hl3 hst,?_⟩;generalize w3.putObj l (.loop { rec' with state:=.exhausted })=w4 at *
    cases hp:rec'.pending with
    | none =>
     rw [hp] at q;exact ⟨.norm,e,t',J,_,trivial,q,hea,hrel4,hext,hmk⟩
    | some c =>
     rw [hp] at q;refine wpIn_mono (q _ J _ _ hea hrel4 (hir.after hext)) ?_
     rintro x a5 w5 ⟨ax,e5,t5,J5,ds5,f1,f2,f3,f4,f5,f6⟩;exact ⟨ax,e5,t5,J5,ds5,f1,f2,f3,f4,hext.trans f5,hmk.trans f5 f6 hext.size⟩
   ·rw [hcallf] at hcall;injection hcall with h1 h2;exact absurd h1 (by simp)
 cases ro with
 | none =>
  refine key _ (w.heap.size+1) _ { state:=.ready,pending:=none,fn:=fnn,tmps:=a.tmps,params:=ps,assign,body,defers:=w.heap.size } [w.heap.size] (run_enterLoop_outer _ _ _ _ _) rfl rfl rfl rfl rfl rfl ?_ (by omega) (fun b hb=>?_) rfl rfl rfl rfl (by simp) (fun D hD=>?_)
  ·have:=heap_alloc_new (w.alloc (.deferred (some []))) (.loop { state:=.ready,pending:=none,fn:=fnn,tmps:=a.tmps,params:=ps,assign,body,defers:=w.heap.size })
   rwa [World.size_alloc] at this
  ·rw [heap_alloc_old _ _ (by rw [World.size_alloc];omega),heap_alloc_old _ _ hb]
  ·simp at hD;subst hD
   refine ⟨Nat.le_refl _,by omega,?_⟩
   rw [heap_alloc_old _ _ (by rw [World.size_alloc];omega)]
   exact heap_alloc_new w _
 | some l0 =>
  obtain ⟨⟨r0,h0⟩,_,_⟩:=hir l0 rfl;refine key _ w.heap.size _ { state:=.ready,pending:=none,fn:=fnn,tmps:=a.tmps,params:=ps,assign,body,defers:=r0.defers } [] (run_enterLoop_inner h0 _ _ _ _ _) rfl rfl rfl rfl rfl rfl (heap_alloc_new w _) (Nat.le_refl _) (fun b hb=>heap_alloc_old _ _ hb) rfl rfl rfl rfl List.nodup_nil (fun D hD=>by simp at hD)
def byteAV(c:UInt8):AV:=.v (.int .u8 (c.toNat:Int))
def bytesAV(l:List UInt8):AV:=.sl 1 (l.map byteAV)
theorem flat_bytes(l:List UInt8):(l.map byteAV).flatMap cellsOf=l.map byteAV:=by
 induction l with
 | nil=>rfl
 | cons x l ih=>rw [List.map_cons,List.flatMap_cons,ih];rfl
theorem Meets.frz{P:Program}{f:FuncId}{as:List AV}{s:Hp}{K:AV->Hp->Prop}(h:Meets P f as s (fun r t=>∃ F r' t',(∀ p,p∈F->p∈t)/\Bor F r r'/\(∀ p,p∈t'->∃ o,(p.1,o)∈t/\p.1∉F.keys/\ObjBor F o p.2)/\(t.keys.Nodup->t'.keys.Nodup)/\K r' t')):Meets P f as s K:=by
 intro I w vs hs ha;refine (h I w vs hs ha).mono ?_
 rintro v w' ⟨r,t,J,⟨F,r',t',hF,hb,ht',hn,hK⟩,q2,q3,q4⟩;have hobj:∀ b o,(b,o)∈F->ObjRel J w' b o:=fun b o hb=>q2.obj b o (hF _ hb)
 have hfree:∀ b,b∈F.keys->J b=none:=fun b hb=>q2.free b (Xm hF b hb)
 have hle:=Imm.le_with (w:=w') hfree;have hkeys:∀ b,b∈t'.keys->b∈t.keys/\b∉F.keys:=fun b hb=>by
  obtain ⟨p,hp,rfl⟩:=List.mem_map.1 hb;obtain ⟨o,h1,h2,_⟩:=ht' p hp;exact ⟨List.mem_map.2 ⟨_,h1,rfl⟩,h2⟩
 refine ⟨r',t',J.with F w',hK,⟨fun b o hb=>by
   unfold Imm.with at hb
   split at hb
   ·exact hb
   ·exact q2.imm b o hb,fun b o hb=>?_,fun b hb=>?_,hn q2.nodup,q2.gnd.mono hle⟩,hb.rv hobj hle q3,⟨q4.os,q4.tape,q4.output,q4.size,q4.frame,Imm.le_trans q4.imm hle,fun b hb=>q4.own b (hkeys b hb).1,fun b h1 h2=>?_⟩⟩
 ·obtain ⟨o0,h1,h2,h3⟩:=ht' _ hb
  exact h3.rel hobj hle (q2.obj b o0 h1)
 ·obtain ⟨h1,h2⟩:=hkeys b hb
  unfold Imm.with
  rw [if_neg h2];exact q2.free b h1
 ·by_cases hbF:b∈F.keys
  ·exact q4.own b (Xm hF b hbF)
  ·have:J b≠none:=by
    unfold Imm.with at h2
    rwa [if_neg hbF] at h2
   exact q4.newimm b h1 this
theorem Bor.bytes{F:Hp}{q n c size:Nat}{e:TypeId}{l:List UInt8}(h:(q,AObj.cells e (l.map byteAV) size)∈F)(hn:l.length=n)(hc:n<=c)(hb:n<=big):Bor F (.v (.slice (some ⟨q,0,none⟩) n c)) (bytesAV l):=by
 refine .row q 0 n c 1 size e (l.map byteAV) (l.map byteAV) h (by simp [hn]) hc hb (fun i x hx=>?_) ?_
 ·rw [List.getElem?_map] at hx
  obtain ⟨y,_,rfl⟩:=Option.map_eq_some_iff.1 hx
  rfl
 ·rw [flat_bytes,List.drop_zero,Nat.mul_one,List.take_of_length_le (by simp [hn])]
def FrzB(K:AV->Hp->Prop)(r:AV)(t:Hp):Prop:=
 t.keys.Nodup->∃ (q n c:Nat) (e:TypeId) (size:Nat) (l:List UInt8) (t':Hp),r=.v (.slice (some ⟨q,0,none⟩) n c)/\t=(q,.cells e (l.map byteAV) size)::t'/\l.length=n/\n<=c/\n<=big/\K (bytesAV l) t'
theorem FrzB.mk{K:AV->Hp->Prop}{q n c size:Nat}{e:TypeId}{cs:List AV}{t':Hp}(l:List UInt8)(hc:cs=l.map byteAV)(hl:l.length=n)(hcap:n<=c)(hb:n<=big)(hk:K (bytesAV l) t'):
  FrzB K (.v (.slice (some ⟨q,0,none⟩) n c)) ((q,.cells e cs size)::t'):=fun _=>⟨q,n,c,e,size,l,t',rfl,by rw [hc],hl,hcap,hb,hk⟩
theorem hp_del_cons(k:Nat)(o:AObj)(s:Hp)(b:Nat):Hp.del ((k,o)::s) b=if k=b then Hp.del s b else (k,o)::Hp.del s b:=by
 unfold Hp.del;rw [List.filter_cons]
 by_cases h:k=b <;> simp [h]
theorem hp_nodup_cons(k:Nat)(o:AObj)(s:Hp):(Hp.keys ((k,o)::s)).Nodup=(¬ k∈s.keys/\s.keys.Nodup):=propext List.nodup_cons
theorem hp_nodup_nil:(Hp.keys []).Nodup=True:=eq_true List.nodup_nil
theorem X3{s:Hp}{b:Nat}(o:AObj)(h:¬ b∈s.keys):Hp.set s b o=s:=by
 unfold Hp.set
 conv=>rhs;rw [<- List.map_id s]
 apply List.map_congr_left;intro p hp;rw [if_neg (fun e=>h (List.mem_map.2 ⟨p,hp,e⟩))];rfl
theorem hp_get_out{s:Hp}{b:Nat}(h:¬ b∈s.keys):Hp.get s b=none:=by
 unfold Hp.get;rw [List.find?_eq_none.2 (fun p hp=>by simpa using fun e=>h (List.mem_map.2 ⟨p,hp,e⟩))];rfl
theorem hp_del_out{s:Hp}{b:Nat}(h:¬ b∈s.keys):Hp.del s b=s:=by
 unfold Hp.del;exact List.filter_eq_self.2 fun p hp=>by simpa using fun e=>h (List.mem_map.2 ⟨p,hp,e⟩)
theorem perm_eraseIdx{α:Type}:∀ {l:List α} {i:Nat} (h:i<l.length),(l[i]::l.eraseIdx i).Perm l
 | [],i,h=>by simp at h
 | x::l,0,h=>List.Perm.refl _
 | x::l,i+1,h=>by
  have:=perm_eraseIdx (l:=l) (i:=i) (by simpa using h)
  simp only [List.getElem_cons_succ,List.eraseIdx_cons_succ];exact (List.Perm.swap _ _ _).trans (this.cons x)
theorem Zk(b:Nat):(¬ b∈Hp.keys [])=True:=by simp [Hp.keys]
theorem Zt(k:Nat)(o:AObj)(s:Hp)(b:Nat):(¬ b∈Hp.keys ((k,o)::s))=(b≠k/\¬ b∈s.keys):=by
 simp [Hp.keys]
theorem Meets.args{P:Program}{f:FuncId}{as bs:List AV}{s:Hp}{K:AV->Hp->Prop}(hc:∀ I vs,RVs I vs as->RVs I vs bs)(h:Meets P f bs s K):Meets P f as s K:=
 fun I w vs hs ha=>h I w vs hs (hc I vs ha)
theorem RVs.one{I:Imm}{vs:Array Value}{a b:AV}(hc:∀ v,RV I v a->RV I v b)(h:RVs I vs [a]):RVs I vs [b]:=
 ⟨h.len,fun j u hj=>by
  match j with
  | 0=>simp at hj;subst hj;exact hc _ (h.rv 0 a rfl)
  | j+1=>simp at hj⟩
theorem Meets.use{P:Program}{f:FuncId}{as:List AV}{s:Hp}{K:AV->Hp->Prop}(s0 rest:Hp)(hp:(s0++rest).Perm s)(h:Meets P f as s0 (fun r t=>K r (t++rest))):Meets P f as s K:=
 Meets.drop (Meets.frame h) (fun p hm=>hp.subset hm) (fun hn=>(List.Perm.map (fun p:Nat × AObj=>p.1) hp).nodup_iff.2 hn)
def BorL(s:Hp)(us vs:List AV):Prop:=us.length=vs.length/\∀ (j:Nat) (u v:AV),us[j]? = some u->vs[j]? = some v->Bor s u v
theorem BorL.nil(s:Hp):BorL s [] []:=⟨rfl,fun j u v h=>by simp at h⟩
theorem BorL.cons{s:Hp}{u v:AV}{us vs:List AV}(h:Bor s u v)(k:BorL s us vs):BorL s (u::us) (v::vs):=
 ⟨by simp [k.1],fun j a b ha hb=>by
  cases j with
  | zero=>simp at ha hb;subst ha;subst hb;exact h
  | succ j=>exact k.2 j a b (by simpa using ha) (by simpa using hb)⟩
theorem BorL.refl(s:Hp)(us:List AV):BorL s us us:=⟨rfl,fun j u v h1 h2=>by rw [h1] at h2;injection h2 with h2;subst h2;exact .refl _⟩
theorem BorL.append{s:Hp}{us vs us' vs':List AV}(h:BorL s us vs)(k:BorL s us' vs'):BorL s (us++us') (vs++vs'):=by
 refine ⟨by simp [h.1,k.1],fun j a b ha hb=>?_⟩
 rw [List.getElem?_append] at ha hb
 split at ha
 ·rename_i hj;rw [if_pos (by rw [<- h.1];exact hj)] at hb;exact h.2 j a b ha hb
 ·rename_i hj;rw [if_neg (by rw [<- h.1];exact hj)] at hb;rw [h.1] at ha;exact k.2 _ a b ha hb
theorem BorL.tup{s:Hp}{us vs:List AV}(h:BorL s us vs):Bor s (.tup us) (.tup vs):=.tup _ _ h.1 h.2
theorem BorL.agg{s:Hp}{us vs:List AV}(h:BorL s us vs):Bor s (.agg us) (.agg vs):=.agg _ _ h.1 h.2
theorem BorL.cells{s:Hp}{us vs:List AV}(h:BorL s us vs)(e:TypeId)(size:Nat):ObjBor s (.cells e us size) (.cells e vs size):=.cells _ _ _ _ h.1 h.2
inductive Froz (F:Hp):Hp->Hp->Prop where
 | nil:Froz F [] []
 | drop (x:Nat × AObj) {t t':Hp} (h:Froz F t t'):Froz F (x::t) t'
 | keep (k:Nat) {o o':AObj} {t t':Hp} (hk:k∉F.keys) (ho:ObjBor F o o') (h:Froz F t t'):Froz F ((k,o)::t) ((k,o')::t')
theorem Froz.rest{F:Hp}:∀ {t:Hp},(∀ k,k∈t.keys->k∉F.keys)->Froz F t t
 | [],_=>.nil
 | (k,o)::t,h=>.keep k (h k List.mem_cons_self) (.refl _ _) (Froz.rest fun j hj=>h j (List.mem_cons_of_mem _ hj))
theorem Froz.mem{F:Hp}{t t':Hp}(h:Froz F t t'):∀ p,p∈t'->∃ o,(p.1,o)∈t/\p.1∉F.keys/\ObjBor F o p.2:=by
 induction h with
 | nil=>exact fun p hp=>by simp at hp
 | drop x h ih=>exact fun p hp=>by obtain ⟨o,h1,h2⟩:=ih p hp;exact ⟨o,List.mem_cons_of_mem _ h1,h2⟩
 | keep k hk ho h ih =>
  intro p hp
  rcases List.mem_cons.1 hp with rfl | hp
  ·exact ⟨_,List.mem_cons_self,hk,ho⟩
  ·obtain ⟨o,h1,h2⟩:=ih p hp;exact ⟨o,List.mem_cons_of_mem _ h1,h2⟩
theorem Froz.sub{F:Hp}{t t':Hp}(h:Froz F t t'):t'.keys.Sublist t.keys:=by
 induction h with
 | nil=>exact List.Sublist.refl _
 | drop x h ih=>exact ih.cons _
 | keep k hk ho h ih=>exact ih.cons_cons _
theorem Meets.kn{P:Program}{f:FuncId}{as:List AV}{s:Hp}{K:AV->Hp->Prop}(h:Meets P f as s (fun r t=>t.keys.Nodup->K r t)):Meets P f as s K:=
 fun I w vs hs ha=>(h I w vs hs ha).mono fun v w' ⟨r,t,J,h1,q2,q3⟩=>⟨r,t,J,h1 q2.nodup,q2,q3⟩
def Frz(K:AV->Hp->Prop)(r:AV)(t:Hp):Prop:=t.keys.Nodup->∃ F r' t',(∀ p,p∈F->p∈t)/\Bor F r r'/\Froz F t t'/\K r' t'
theorem Meets.froz{P:Program}{f:FuncId}{as:List AV}{s:Hp}{K:AV->Hp->Prop}(h:Meets P f as s (Frz K)):Meets P f as s K:=by
 refine Meets.frz (fun I w vs hs ha=>(h I w vs hs ha).mono ?_)
 rintro v w' ⟨r,t,J,hk,q2,q3,q4⟩;obtain ⟨F,r',t',h1,h2,h3,h4⟩:=hk q2.nodup;exact ⟨r,t,J,⟨F,r',t',h1,h2,h3.mem,fun hn=>hn.sublist h3.sub,h4⟩,q2,q3,q4⟩
theorem Bor.imap{F:Hp}{q:Nat}{k:IntKind}{es:List (Int × AV)}(h:(q,AObj.imap k es)∈F):Bor F (.v (.map (some q))) (.mp k es):=
 .map q k es es h rfl (fun j u v h1 h2=>by rw [h1] at h2;injection h2 with h2;subst h2;rfl) (fun j u v h1 h2=>by rw [h1] at h2;injection h2 with h2;subst h2;exact .refl _)
theorem AW.gen{P:Program}{ro:Option Nat}{n:Nat}{c:Code}{e:Env}{s:Hp}{Q:AX->Env->Hp->Prop}(h:∀ E:Env,(∀ t,E t=e t)->AW ro P n c E s Q):AW ro P n c e s Q:=h e fun _=>rfl
theorem AW.condT{P:Program}{ro:Option Nat}{n:Nat}{c d:Code}{x:Operand}{e:Env}{s:Hp}{Q:AX->Env->Hp->Prop}(hx:ev e x=.v (.bool true))(h:AW ro P n c e s Q):AW ro P n (.cond x c d) e s Q:=
 AW.cond hx (fun _=>h) (fun h=>by simp at h)
theorem AW.condF{P:Program}{ro:Option Nat}{n:Nat}{c d:Code}{x:Operand}{e:Env}{s:Hp}{Q:AX->Env->Hp->Prop}(hx:ev e x=.v (.bool false))(h:AW ro P n d e s Q):AW ro P n (.cond x c d) e s Q:=
 AW.cond hx (fun h=>by simp at h) (fun _=>h)
end Go.Eng
namespace Go.Pl
open Go Go.Eng
abbrev Bytes:=List UInt8
section
variable {α : Type}
def pget(es:List (Int × α))(n:Int):Option α:=(es.find? (fun p=>p.1==n)).map (·.2)
def pput(es:List (Int × α))(n:Int)(b:α):List (Int × α):=
 match pget es n with
 | some _=>es.set (es.findIdx (fun p=>p.1==n)) (n,b)
 | none=>es++[(n,b)]
def pdel(es:List (Int × α))(n:Int):List (Int × α):=es.eraseIdx (es.findIdx (fun p=>p.1==n))
def gmap(f:α->AV)(es:List (Int × α)):List (Int × AV):=es.map fun p=>(p.1,f p.2)
variable (f : α → AV)
theorem find_gmap(es:List (Int × α))(n:Int):(gmap f es).find? (fun p=>p.1==n)=(es.find? (fun p=>p.1==n)).map fun p=>(p.1,f p.2):=by
 unfold gmap;rw [List.find?_map];rfl
theorem findIdx_gmap(es:List (Int × α))(n:Int):(gmap f es).findIdx (fun p=>p.1==n)=es.findIdx (fun p=>p.1==n):=by
 unfold gmap
 induction es with
 | nil=>rfl
 | cons x es ih=>simp only [List.map_cons,List.findIdx_cons];rw [ih]
theorem mget_gmap(es:List (Int × α))(n:Int):mget (gmap f es) n=(pget es n).map f:=by
 unfold mget pget;rw [find_gmap];cases es.find? (fun p=>p.1==n) <;> rfl
theorem mput_gmap(es:List (Int × α))(n:Int)(b:α):mput (gmap f es) n (f b)=gmap f (pput es n b):=by
 unfold mput pput;rw [mget_gmap,findIdx_gmap]
 cases pget es n with
 | none=>simp [gmap]
 | some x=>simp [gmap,List.map_set]
theorem pget_none{es:List (Int × α)}{n:Int}:pget es n=none↔n∉es.map (·.1):=by
 unfold pget;rw [Option.map_eq_none_iff,List.find?_eq_none];simp only [beq_iff_eq,List.mem_map,not_exists,not_and]
theorem pget_some{es:List (Int × α)}{n:Int}{b:α}(h:pget es n=some b):(n,b)∈es/\es.findIdx (fun p=>p.1==n)<es.length/\es[es.findIdx (fun p=>p.1==n)]? = some (n,b):=by
 unfold pget at h;obtain ⟨p,hp,rfl⟩:=Option.map_eq_some_iff.1 h;have h1:=List.find?_some hp;simp at h1;subst h1;have hm:=List.mem_of_find?_eq_some hp;rw [List.find?_eq_getElem?_findIdx] at hp;exact ⟨hm,(List.getElem?_eq_some_iff.1 hp).1,hp⟩
theorem pput_keys(es:List (Int × α))(n:Int)(b:α):(pput es n b).map (·.1)=if n∈es.map (·.1) then es.map (·.1) else es.map (·.1)++[n]:=by
 unfold pput
 cases h:pget es n with
 | none=>rw [if_neg (pget_none.1 h)];simp
 | some x =>
  obtain ⟨h1,h2,h3⟩:=pget_some h;rw [if_pos (List.mem_map.2 ⟨_,h1,rfl⟩)];simp only [List.map_set];apply List.ext_getElem?;intro i;rw [List.getElem?_set]
  split
  ·rename_i hi;subst hi
   rw [List.getElem?_map,h3];simp [h2]
  ·rfl
theorem pput_nodup{es:List (Int × α)}(h:(es.map (·.1)).Nodup)(n:Int)(b:α):((pput es n b).map (·.1)).Nodup:=by
 rw [pput_keys]
 split
 ·exact h
 ·rename_i hn
  exact List.nodup_append.2 ⟨h,by simp,fun a ha c hc e=>by simp at hc;subst hc;exact hn (e▸ha)⟩
end
def imap(ms:List (Int × Int)):List (Int × AV):=gmap (fun c=>.v (.int .i64 c)) ms
def putP(es:List (Int × Bytes))(w:Int × Option Bytes):List (Int × Bytes):=
 match w.2 with
 | none=>pdel es w.1
 | some b=>pput es w.1 b
theorem mget_imap(es:List (Int × Int))(n:Int):mget (imap es) n=(pget es n).map (fun c=>.v (.int .i64 c)):=mget_gmap _ _ _
theorem mput_imap(es:List (Int × Int))(n c:Int):mput (imap es) n (.v (.int .i64 c))=imap (pput es n c):=mput_gmap (fun c=>.v (.int .i64 c)) _ _ _
def Row(el:TypeId)(k:Nat)(v:Value)(n:Nat)(cs:List AV)(rows:Hp):Prop:=
 (v=.slice none 0 0/\n=0/\cs=[]/\rows=[])∨∃ q c,v=.slice (some ⟨q,0,none⟩) n c/\n<=c/\c<=maxLen/\cs.length=n*k/\rows=[(q,.cells el cs (c*k))]
theorem Row.slice{el:TypeId}{k:Nat}{v:Value}{n:Nat}{cs:List AV}{rows:Hp}(h:Row el k v n cs rows):∃ a c,v=.slice a n c /\
  ((a=none/\n=0/\c=0/\cs=[]/\rows=[])∨∃ q,a=some ⟨q,0,none⟩/\n<=c/\c<=maxLen/\cs.length=n*k/\rows=[(q,.cells el cs (c*k))]):=by
 rcases h with ⟨rfl,rfl,rfl,rfl⟩ | ⟨q,c,rfl,h⟩
 ·exact ⟨none,0,rfl,.inl ⟨rfl,rfl,rfl,rfl,rfl⟩⟩
 ·exact ⟨_,c,rfl,.inr ⟨q,rfl,h⟩⟩
structure Dk where
 room:Int
 es:List (Int × Bytes)
 pend:List (Int × Option Bytes)
structure Dk.Ok (d:Dk):Prop where
 nd:(d.es.map (·.1)).Nodup
 es64:∀ p∈d.es,p.2.length=64
 pend64:∀ p∈d.pend,∀ b,p.2=some b->b.length=64
def dd:List Int->List Int
 | []=>[]
 | x::l=>if x∈dd l then dd l else x::dd l
theorem dd_mem:∀ (l:List Int) (k:Int),k∈dd l↔k∈l
 | [],k=>Iff.rfl
 | x::l,k=>by
  unfold dd
  split
  ·rename_i h
   rw [dd_mem l k,List.mem_cons];exact ⟨.inr,fun h'=>h'.elim (fun e=>by subst e;exact (dd_mem l k).1 h) id⟩
  ·rw [List.mem_cons,List.mem_cons,dd_mem l k]
theorem dd_nodup:∀ (l:List Int),(dd l).Nodup
 | []=>List.nodup_nil
 | x::l=>by
  unfold dd
  split
  ·exact dd_nodup l
  ·exact List.nodup_cons.2 ⟨by assumption,dd_nodup l⟩
def tk(d:Dk):List Int:=dd (d.es.map (·.1)++d.pend.filterMap fun w=>w.2.map fun _=>w.1)
def full(d:Dk)(a:Int):Prop:=a∉tk d/\d.room<=(tk d).length
instance (d:Dk) (a:Int):Decidable (full d a):=inferInstanceAs (Decidable (_/\_))
theorem tk_mem(d:Dk)(k:Int):k∈tk d↔(k∈d.es.map (·.1)∨∃ b,(k,some b)∈d.pend):=by
 unfold tk;rw [dd_mem,List.mem_append,List.mem_filterMap];refine or_congr Iff.rfl ⟨fun ⟨w,h1,h2⟩=>?_,fun ⟨b,h⟩=>⟨_,h,rfl⟩⟩
 obtain ⟨b,hb,rfl⟩:=Option.map_eq_some_iff.1 h2;exact ⟨b,by rw [<- hb];exact h1⟩
def Counts(d:Dk)(ms:List (Int × Int)):Prop:=(ms.map (·.1)).Nodup/\(∀ k,k∈ms.map (·.1)↔(k∈d.es.map (·.1)∨∃ b,(k,some b)∈d.pend))/\∀ p∈ms,0<p.2
theorem Counts.length{d:Dk}{ms:List (Int × Int)}(h:Counts d ms):ms.length=(tk d).length:=by
 rw [<- List.length_map (f:=(·.1))];exact ((List.perm_ext_iff_of_nodup h.1 (dd_nodup _)).2 fun k=>(h.2.1 k).trans (tk_mem d k).symm).length_eq
theorem Counts.get{d:Dk}{ms:List (Int × Int)}(h:Counts d ms)(k:Int):(k∉tk d/\pget ms k=none)∨(k∈tk d/\∃ c,pget ms k=some c/\0<c):=by
 cases hg:pget ms k with
 | none=>exact .inl ⟨fun hk=>pget_none.1 hg ((h.2.1 k).2 ((tk_mem d k).1 hk)),rfl⟩
 | some c=>exact .inr ⟨(tk_mem d k).2 ((h.2.1 k).1 (List.mem_map.2 ⟨_,(pget_some hg).1,rfl⟩)),c,rfl,h.2.2 _ (pget_some hg).1⟩
end Go.Pl
namespace Go.Mac
open Go Go.Eng
inductive LV where
 | int (k:IntKind) (n:Int)
 | bool (b:Bool)
 | str (s:List UInt8)
 | nilp
 | ptr (b o:Nat)
 | pel (k b i o:Nat)
 | irp (x:LV)
 | nils
 | sl (k b i n:Nat) (c:Option Nat)
 | asl (b o n c:Nat)
 | isl (k:Nat) (xs:List LV)
 | own (e k:Nat) (xs:List LV)
 | nilm
 | map (b:Nat)
 | omap (k:IntKind) (ks:List Int) (vs:List LV)
 | nili
 | ifc (t:Nat) (x:LV)
 | nilf
 | fn (f:Nat) (first caps:List LV)
 | yld (l:Nat)
 | agg (xs:List LV)
 | tup (xs:List LV)
 | any
 deriving Inhabited
inductive LObj where
 | box (e:Nat) (cs:List LV)
 | row (e k:Nat) (xs:List LV)
 | map (k:IntKind) (es:List (Int × LV))
 | lp (env:List LV) (ps:List Nat) (assign body:Code) (done:Bool) (pend:Option Code)
 deriving Inhabited
structure St where
 next:Nat
 objs:List (Nat × LObj)
 deriving Inhabited
abbrev LEnv:=List LV
def LEnv.get(e:LEnv)(t:Nat):LV:=e.getD t .any
def LEnv.put(e:LEnv)(d:Option Nat)(v:LV):LEnv:=
 match d with
 | some d=>e.set d v
 | none=>e
def Yh:List (Nat × LObj)->Nat->Option LObj
 | [],_=>none
 | (k,o)::l,b=>if k=b then some o else Yh l b
def oset:List (Nat × LObj)->Nat->LObj->List (Nat × LObj)
 | [],_,_=>[]
 | (k,o)::l,b,x=>if k=b then (k,x)::l else (k,o)::oset l b x
def Yo:List (Nat × LObj)->Nat->List (Nat × LObj)
 | [],_=>[]
 | (k,o)::l,b=>if k=b then l else (k,o)::Yo l b
def St.look(s:St)(b:Nat):Option LObj:=Yh s.objs b
def St.set(s:St)(b:Nat)(o:LObj):St:={ s with objs:=oset s.objs b o }
def St.del(s:St)(b:Nat):St:={ s with objs:=Yo s.objs b }
def St.add(s:St)(o:LObj):St:={ next:=s.next+1,objs:=(s.next,o)::s.objs }
def Z4:LV->List LV
 | .agg xs=>xs
 | x=>[x]
def LV.cap:LV->Bool
 | .int ..=>true
 | .bool _=>true
 | .str _=>true
 | .nilp=>true
 | .ptr ..=>true
 | .nils=>true
 | .nilm=>true
 | .map _=>true
 | .nili=>true
 | .nilf=>true
 | _=>false
def LV.one:LV->Bool
 | .agg _=>false
 | .tup _=>false
 | .any=>false
 | .own ..=>false
 | .omap ..=>false
 | .fn _ a c=>a.all LV.cap&&c.all LV.cap
 | _=>true
def LV.oneD:LV->Bool
 | .agg _=>false
 | .tup _=>false
 | .any=>false
 | .own ..=>false
 | .omap ..=>false
 | .fn _ a c=>a.isEmpty&&c.isEmpty
 | .ptr ..=>false
 | .pel ..=>false
 | .sl ..=>false
 | .asl ..=>false
 | .map _=>false
 | .yld _=>false
 | _=>true
def Xq(flat:Bool)(c:LV):Bool:=if flat then c.oneD else c.one
def LV.plain:LV->Bool
 | .own ..=>false
 | .omap ..=>false
 | _=>true
def LV.isAgg:LV->Bool
 | .agg _=>true
 | _=>false
mutual
def Zs:LV->LV
 | .ptr ..=>.any
 | .pel ..=>.any
 | .sl ..=>.any
 | .asl ..=>.any
 | .map _=>.any
 | .yld _=>.any
 | .ifc t x=>.ifc t (Zs x)
 | .fn f a c=>.fn f (Zi a) (Zi c)
 | .agg xs=>.agg (Zi xs)
 | .tup xs=>.tup (Zi xs)
 | x=>x
def Zi:List LV->List LV
 | []=>[]
 | x::l=>Zs x::Zi l
end
def Wr:Value->LV
 | .bool b=>.bool b
 | .int k n=>.int k n
 | .string s=>.str s.data.toList
 | .pointer none=>.nilp
 | .slice none 0 0=>.nils
 | .map none=>.nilm
 | .nilFunc=>.nilf
 | .nilIface=>.nili
 | .iface t (.int k n)=>.ifc t (.int k n)
 | .iface t (.string s)=>.ifc t (.str s.data.toList)
 | .iface t (.bool b)=>.ifc t (.bool b)
 | _=>.any
def X7:List Value->List LV
 | []=>[]
 | x::l=>Wr x::X7 l
def LV.isAny:LV->Bool
 | .any=>true
 | _=>false
def Ww:Value->LV
 | .agg cs=>if (X7 cs.toList).any LV.isAny then .any else .agg (X7 cs.toList)
 | x=>Wr x
def LEnv.ev(e:LEnv):Operand->LV
 | .tmp t=>e.get t
 | .const x=>Ww x
 | .func f=>.fn f [] []
 | .global _=>.any
def zelem(P:Program)(el:TypeId):Option LV:=
 match Xp P el with
 | some z=>if (Ww z).isAny then none else some (Ww z)
 | none=>none
def cellTysF(P:Program):Nat->TypeId->List TypeId
 | 0,t=>[t]
 | n+1,t =>
  match P.underlying t with
  | some (.struct fs)=>fs.toList.flatMap fun f=>cellTysF P n f.type
  | some (.array m el)=>(List.replicate m (cellTysF P n el)).flatten
  | _=>[t]
def cellTys(P:Program)(t:TypeId):List TypeId:=cellTysF P 6 t
def flatC(P:Program)(t:TypeId):Bool:=
 match P.underlying t with
 | some (.int _)=>true
 | some .bool=>true
 | some .string=>true
 | some (.slice _)=>true
 | _=>false
def deepT(t:TypeId):Bool:=Nat.beq t 1000000
def deepS(t:TypeId):Bool:=Nat.beq t 1000000
def frzF(f:FuncId):Bool:=Nat.beq f 29
def Y4(P:Program)(t:TypeId):Bool:=!deepT t&&(cellTys P t).all (flatC P)
def lint(op:BinOp)(k:IntKind)(a b:Int):Option LV:=
 match op with
 | .add=>some (.int k (k.wrap (a+b)))
 | .sub=>some (.int k (k.wrap (a-b)))
 | .mul=>some (.int k (k.wrap (a*b)))
 | .quo=>if b=0 then none else some (.int k (k.wrap (a.tdiv b)))
 | .rem=>if b=0 then none else some (.int k (a.tmod b))
 | .and=>some (.int k (bits .and k a b))
 | .or=>some (.int k (bits .or k a b))
 | .xor=>some (.int k (bits .xor k a b))
 | .andNot=>some (.int k (bits .andNot k a b))
 | .shl=>none
 | .shr=>none
 | .eql=>some (.bool (decide (a=b)))
 | .neq=>some (.bool (!decide (a=b)))
 | .lss=>some (.bool (decide (a<b)))
 | .leq=>some (.bool (decide (a<=b)))
 | .gtr=>some (.bool (decide (b<a)))
 | .geq=>some (.bool (decide (b<=a)))
def lshift(op:BinOp)(k:IntKind)(a b:Int):Option LV:=
 if b<0 then none else
 match op with
 | .shl=>some (.int k (k.wrap (a*2 ^ (min b.toNat k.bits))))
 | .shr=>some (.int k (a.fdiv (2 ^ (min b.toNat k.bits))))
 | _=>none
def eqOp(op:BinOp)(b:Bool):Option LV:=
 match op with
 | .eql=>some (.bool b)
 | .neq=>some (.bool (!b))
 | _=>none
def lnilI(P:Program)(t:TypeId):LV->Option Bool
 | .nili=>if Yl P t=some true then some true else none
 | .ifc _ _=>if Yl P t=some true then some false else none
 | _=>none
def lnilS(P:Program)(t:TypeId):LV->Option Bool
 | .nils=>if V2 P t then some true else none
 | .isl _ xs=>if V2 P t then (if xs.isEmpty then none else some false) else none
 | .sl _ _ _ n _=>if V2 P t then (if n=0 then none else some false) else none
 | _=>none
def lnilP(P:Program)(t:TypeId):LV->Option Bool
 | .nilp=>if isPtrT P t then some true else none
 | .ptr _ _=>if isPtrT P t then some false else none
 | .pel _ _ _ _=>if isPtrT P t then some false else none
 | _=>none
def lnilM(P:Program)(t:TypeId):LV->Option Bool
 | .nilm=>if isMapT P t then some true else none
 | .map _=>if isMapT P t then some false else none
 | _=>none
def lifeq(P:Program)(t:TypeId)(x:LV)(d:TypeId)(y:LV):Option Bool:=
 match y with
 | .int k' b =>
  if Yl P t=some true then
   match x with
   | .nili=>some false
   | .ifc d' x'=>if d'=d then
     match x' with
     | .int k a=>if cmpT P d=some k/\k=k' then some (a==b) else none
     | _=>none
    else some false
   | _=>none
  else none
 | _=>none
def intsL(k:IntKind):List LV->Option (List Int)
 | []=>some []
 | .int k' a::l=>if k'=k then (intsL k l).map (a::·) else none
 | _=>none
def larr(P:Program)(t:TypeId)(us vs:List LV):Option Bool:=
 match P.underlying t with
 | some (.array n el) =>
  match P.underlying el with
  | some (.int k) =>
   if P.eqGuardType P.depth t=false/\P.cellsOf el=1/\us.length=n/\vs.length=n then
    match intsL k us,intsL k vs with
    | some a,some b=>some (a==b)
    | _,_=>none
   else none
  | _=>none
 | _=>none
def lbin(P:Program)(op:BinOp)(t:TypeId)(yo:Operand)(x y:LV):Option LV:=
 match x,y with
 | .int k a,.int k' b =>
  match op with
  | .shl=>lshift .shl k a b
  | .shr=>lshift .shr k a b
  | op=>if k=k' then lint op k a b else none
 | .bool a,.bool b=>if P.underlying t matches some .bool then eqOp op (a==b) else none
 | .str a,.str b =>
  match op with
  | .eql=>some (.bool (a==b))
  | .neq=>some (.bool (!(a==b)))
  | .lss=>some (.bool (Op.bytesLess a b))
  | .gtr=>some (.bool (!(Op.bytesLess a b||a==b)))
  | .add=>if a.length+b.length<=big then some (.str (a++b)) else none
  | _=>none
 | x,.nils=>(lnilS P t x).bind (eqOp op)
 | x,.nilp=>(lnilP P t x).bind (eqOp op)
 | x,.nilm=>(lnilM P t x).bind (eqOp op)
 | x,.nili=>if isNilC yo then (lnilI P t x).bind (eqOp op) else none
 | x,.ifc d y=>(lifeq P t x d y).bind (eqOp op)
 | .agg us,.agg vs=>(larr P t us vs).bind (eqOp op)
 | _,_=>none
def lun(op:UnOp)(x:LV):Option LV:=
 match op,x with
 | .not,.bool b=>some (.bool (!b))
 | .neg,.int k n=>some (.int k (k.wrap (0-n)))
 | .xor,.int k n=>some (.int k (bits .xor k (if k.signed then -1 else k.max) n))
 | _,_=>none
def byteL:List LV->Option (List UInt8)
 | []=>some []
 | .int .u8 n::l=>(byteL l).map (UInt8.ofNat n.toNat::·)
 | _=>none
def lconv(P:Program)(src dst:TypeId)(x:LV):Option LV:=
 match intT P dst,x with
 | some k,.int _ m=>if (P.underlying src).isSome then some (.int k (k.wrap m)) else none
 | none,.isl 1 xs =>
  match Xn P src with
  | some el=>if intT P el=some .u8/\isStrT P dst=true then (byteL xs).map .str else none
  | none=>none
 | _,_=>none
def openCell(st:St)(b:Nat)(e:Nat)(cs:List LV)(j:Nat):Option (LV × St):=
 match cs[j]? with
 | some (.own e' k xs)=>some (.sl k st.next 0 xs.length none,(st.set b (.box e (cs.set j (.sl k st.next 0 xs.length none)))).add (.row e' k xs))
 | some (.omap k ks vs)=>some (.map st.next,(st.set b (.box e (cs.set j (.map st.next)))).add (.map k (ks.zip vs)))
 | some c=>some (c,st)
 | none=>none
def W5(st:St)(b:Nat):Nat->Nat->Option (List LV × St)
 | _,0=>some ([],st)
 | j,n+1 =>
  match st.look b with
  | some (.box e cs) =>
   match openCell st b e cs j with
   | some (c,st1) =>
    match W5 st1 b (j+1) n with
    | some (l,st2)=>some (c::l,st2)
    | none=>none
   | none=>none
  | _=>none
def sealIf(f:Bool)(cs:List LV):List LV:=if f then Zi cs else cs
def lload(P:Program)(t:TypeId)(p:LV)(st:St):Option (LV × St):=
 match Yu P t with
 | some (true,n) =>
  match p with
  | .irp (.agg us)=>if us.length=n then some (.agg (Zi us),st) else none
  | .ptr b o=>if n=0 then none else
   match W5 st b o n with
   | some (l,st1)=>some (.agg l,st1)
   | none=>none
  | .pel k b i o =>
   match st.look b with
   | some (.row e k' xs) =>
    match xs[i]? with
    | some x=>if k'=k/\o+n<=(Z4 x).length then some (.agg (sealIf (Y4 P e) (((Z4 x).drop o).take n)),st) else none
    | none=>none
   | _=>none
  | _=>none
 | some (false,1) =>
  match p with
  | .irp x=>if x.isAgg then none else some (Zs x,st)
  | .ptr b o =>
   match st.look b with
   | some (.box e cs)=>openCell st b e cs o
   | _=>none
  | .pel k b i o =>
   match st.look b with
   | some (.row e k' xs) =>
    match xs[i]? with
    | some x=>if k'=k then
      match (Z4 x)[o]? with
      | some c=>some (if Y4 P e then Zs c else c,st)
      | none=>none
     else none
    | none=>none
   | _=>none
  | _=>none
 | _=>none
def Z7(l:List LV)(off:Nat)(cs:List LV):List LV:=l.take off++cs++l.drop (off+cs.length)
def reelem(x:LV)(cs:List LV):Option LV:=
 match x with
 | .agg _=>some (.agg cs)
 | _=>match cs with
  | [c]=>some c
  | _=>none
def lstore(P:Program)(t:TypeId)(p x:LV)(st:St):Option St:=
 match Yu P t with
 | some (ag,n) =>
  let cs:=Z4 x
  if cs.length=n/\cs.all LV.one then
   match p with
   | .ptr b o =>
    match st.look b with
    | some (.box e l)=>if o+n<=l.length then some (st.set b (.box e (Z7 l o cs))) else none
    | _=>none
   | .pel k' b i o =>
    match st.look b with
    | some (.row e k xs) =>
     match xs[i]? with
     | some y=>if k'=k/\cs.all (Xq (Y4 P e))/\(Z4 y).all LV.one/\o+n<=(Z4 y).length then
       match reelem y (Z7 (Z4 y) o cs) with
       | some y'=>some (st.set b (.row e k (xs.set i y')))
       | none=>none
      else none
     | none=>none
    | _=>none
   | _=>none
  else none
 | none=>none
def lbox(t:TypeId)(x:LV)(st:St):Option (LV × St):=
 if (Z4 x).all LV.one then some (.ptr st.next 0,st.add (.box t (Z4 x))) else none
def lalloc(P:Program)(t:TypeId)(st:St):Option (LV × St):=
 match zelem P t with
 | some z=>some (.ptr st.next 0,st.add (.box t (Z4 z)))
 | none=>none
def lpart(us:List LV)(off:Nat)(agg:Bool)(n:Nat):Option LV:=
 match agg with
 | true=>if off+n<=us.length then some (.agg ((us.drop off).take n)) else none
 | false=>us[off]?
def lrpart(us:List LV)(off:Nat)(agg:Bool)(n:Nat):Option LV:=
 match agg with
 | true=>if off+n<=us.length then some (.irp (.agg ((us.drop off).take n))) else none
 | false=>match us[off]? with
  | some u=>if u.isAgg then none else some (.irp u)
  | none=>none
def lfieldAddr(P:Program)(t:TypeId)(x:LV)(f:Nat):Option LV:=
 match fieldT P t f with
 | some (off,b,n) =>
  match x with
  | .ptr bl o=>some (.ptr bl (o+off))
  | .pel k bl i o=>some (.pel k bl i (o+off))
  | .irp (.agg us)=>lrpart us off b n
  | _=>none
 | none=>none
def lfield(P:Program)(t:TypeId)(x:LV)(f:Nat):Option LV:=
 match fieldT P t f with
 | some (off,b,n) =>
  match x with
  | .agg us=>lpart us off b n
  | _=>none
 | none=>none
def Wf(P:Program)(t:TypeId)(x i:LV):Option LV:=
 match i with
 | .int _ i =>
  match Xn P t with
  | some el =>
   match Yu P el with
   | some (_,k) =>
    match x with
    | .sl k' b j n _=>if k'=k/\0<=i/\i<n then some (.pel k b (j+i.toNat) 0) else none
    | .asl b o n _=>if k=1/\0<=i/\i<n then some (.ptr b (o+i.toNat)) else none
    | .isl k' xs=>if k'=k/\0<=i/\i<xs.length then
      match xs[i.toNat]? with
      | some y=>some (.irp y)
      | none=>none
     else none
    | _=>none
   | none=>none
  | none =>
   match arrT P t with
   | some (len,el) =>
    match Yu P el with
    | some (b,k) =>
     match x with
     | .ptr bl o=>if 0<=i/\i<len then some (.ptr bl (o+i.toNat*k)) else none
     | .irp (.agg us)=>if 0<=i/\i<len then lrpart us (i.toNat*k) b k else none
     | _=>none
    | none=>none
   | none=>none
 | _=>none
def lindex(P:Program)(t:TypeId)(x i:LV):Option LV:=
 match i with
 | .int _ i =>
  match x with
  | .str s=>if isStrT P t/\0<=i/\i<s.length then some (.int .u8 ((s.getD i.toNat 0).toNat:Int)) else none
  | .agg us =>
   match arrT P t with
   | some (len,el) =>
    match Yu P el with
    | some (b,k)=>if 0<=i/\i<len then lpart us (i.toNat*k) b k else none
    | none=>none
   | none=>none
  | _=>none
 | _=>none
def optI:Option LV->Option (Option Int)
 | none=>some none
 | some (.int _ i)=>some (some i)
 | _=>none
def lbounds(len cap:Nat)(lo hi mx:Option Int):Option (Nat × Nat):=
 if 0<=mx.getD (cap:Int)/\mx.getD (cap:Int)<=cap/\0<=hi.getD (len:Int)/\hi.getD (len:Int)<=mx.getD (cap:Int)/\0<=lo.getD 0/\lo.getD 0<=hi.getD (len:Int)/\(mx.isSome->hi.isSome) then
  some ((lo.getD 0).toNat,(hi.getD (len:Int)).toNat)
 else none
def capOk(st:St)(b i n:Nat)(c:Option Nat):Bool:=
 match st.look b with
 | some (.row _ _ xs)=>decide (i+n<=xs.length)&&(match c with | some m=>decide (n<=m) | none=>true)
 | _=>false
def lslice(P:Program)(t:TypeId)(x:LV)(lo hi mx:Option LV)(st:St):Option LV:=
 match optI lo,optI hi,optI mx with
 | some lo,some hi,some mx =>
  match Xn P t with
  | some el =>
   match Yu P el with
   | some (_,k) =>
    match x with
    | .isl k' xs=>if k'=k then (lbounds xs.length xs.length lo hi mx).map fun (l,h)=>.isl k ((xs.take h).drop l) else none
    | .nils=>(lbounds 0 0 lo hi mx).map fun _=>.nils
    | .sl k' b i n c=>if k'=k/\capOk st b i n c then (lbounds n n lo hi mx).map fun (l,h) =>
      if l=0 then .sl k b i h (match mx with | some m=>some m.toNat | none=>c)
      else if l=h then .isl k [] else .sl k b (i+l) (h-l) (match mx with | some m=>some (m.toNat-l) | none=>c.map (· - l))
     else none
    | .asl b o n c=>if k=1/\n<=c then (lbounds n c lo hi mx).map fun (l,h) =>
      if l=0 then .asl b o h (match mx with | some m=>m.toNat | none=>c)
      else if l=h then .isl k [] else .asl b (o+l) (h-l) ((match mx with | some m=>m.toNat | none=>c)-l)
     else none
    | _=>none
   | none=>none
  | none =>
   match arrT P t with
   | some (n,el) =>
    match Yu P el with
    | some (_,1) =>
     match x with
     | .ptr b o=>(lbounds n n lo hi mx).map fun (l,h) =>
      if l=0 then .asl b o h (match mx with | some m=>m.toNat | none=>n)
      else if l=h then .isl 1 [] else .asl b (o+l) (h-l) ((match mx with | some m=>m.toNat | none=>n)-l)
     | _=>none
    | _=>none
   | none =>
    match x with
    | .str y=>if isStrT P t/\mx=none then (lbounds y.length y.length lo hi none).map fun (l,h)=>.str ((y.take h).drop l) else none
    | _=>none
 | _,_,_=>none
def lfill(place:Nat->Option (Nat × Nat)):List LV->List (Nat × LV)->Option (List LV)
 | cells,[]=>some cells
 | cells,(i,v)::rest =>
  match place i with
  | none=>none
  | some (off,size)=>if (Z4 v).length=size/\off+size<=cells.length/\(Z4 v).all LV.one then lfill place (Z7 cells off (Z4 v)) rest else none
def V7(e:LEnv):List (Nat × Operand)->List (Nat × LV)
 | []=>[]
 | (i,x)::l=>(i,e.ev x)::V7 e l
def lbuild(P:Program)(e:LEnv)(t:TypeId)(ps:Array (Nat × Operand)):Option LV:=
 match placesT P t,zelem P t with
 | some pl,some z=>(lfill (fun i=>pl[i]?) (Z4 z) (V7 e ps.toList)).map .agg
 | _,_=>none
def lrowSet(f:Bool)(k:Nat):List LV->List (Nat × LV)->Option (List LV)
 | xs,[]=>some xs
 | xs,(i,v)::rest=>if i<xs.length/\(Z4 v).length=k/\(Z4 v).all (Xq f) then lrowSet f k (xs.set i v) rest else none
def lbuildSlice(P:Program)(e:LEnv)(st:St)(t:TypeId)(len:Nat)(ps:Array (Nat × Operand)):Option (LV × St):=
 match Xn P t with
 | some el =>
  match Yu P el,zelem P el with
  | some (_,k),some z =>
   if 0<k/\(Z4 z).length=k/\(Z4 z).all (Xq (Y4 P el))/\0<len/\len*k<=16777216 then
    match lrowSet (Y4 P el) k (List.replicate len z) (V7 e ps.toList) with
    | some xs=>some (.sl k st.next 0 len none,st.add (.row el k xs))
    | none=>none
   else none
  | _,_=>none
 | none=>none
def lmakeSlice(P:Program)(t:TypeId)(l c:LV)(st:St):Option (LV × St):=
 match l,c with
 | .int _ l,.int _ c =>
  match Xn P t with
  | some el =>
   match Yu P el,bytesT P el,zelem P el with
   | some (_,k),some by_,some z =>
    if 0<by_/\0<k/\(Z4 z).length=k/\(Z4 z).all (Xq (Y4 P el))/\0<=l/\l<=c/\(by_:Int)*c<=281474976710656/\c<=9223372036854775807 then
     some (.sl k st.next 0 l.toNat none,st.add (.row el k (List.replicate c.toNat z)))
    else none
   | _,_,_=>none
  | none=>none
 | _,_=>none
def Yx(f:Bool)(k:Nat)(xs:List LV):Bool:=xs.all fun x=>(Z4 x).length==k&&(Z4 x).all (Xq f)
def lelems(P:Program)(el k:Nat)(x:LV)(st:St):Option (List LV):=
 match x with
 | .isl k' xs=>if k'=k/\Yx (Y4 P el) k (Zi xs) then some (Zi xs) else none
 | .nils=>some []
 | .sl k' b i n _=>if k'=k then
   match st.look b with
   | some (.row e k'' xs)=>if e=el/\k''=k/\i+n<=xs.length/\(Y4 P e||Yx false k ((xs.drop i).take n))=true then some ((xs.drop i).take n) else none
   | _=>none
  else none
 | .asl b o n _=>if k=1 then
   match st.look b with
   | some (.box _ cs)=>if o+n<=cs.length/\((cs.drop o).take n).all (Xq (Y4 P el)) then some ((cs.drop o).take n) else none
   | _=>none
  else none
 | _=>none
def lappend(P:Program)(t:TypeId)(x y:LV)(st:St):Option (LV × St):=
 match Xn P t with
 | some el =>
  match Yu P el,bytesT P el,zelem P el with
  | some (_,k),some by_,some z =>
   if 0<k/\0<by_/\(Z4 z).length=k then
    match lelems P el k y st with
    | some ys =>
     match x with
     | .nils=>if ys.length*by_<=140737488355328 then some (.sl k st.next 0 ys.length none,st.add (.row el k ys)) else none
     | .sl k' b 0 n none =>
      match st.look b with
      | some (.row e' k'' xs)=>if k'=k/\k''=k/\e'=el/\xs.length=n/\(n+ys.length)*by_<=140737488355328 then
        some (.sl k st.next 0 (n+ys.length) none,(st.del b).add (.row el k (xs++ys)))
       else if k'=k/\k''=k/\e'=el/\n+ys.length<=xs.length/\(n+ys.length)*by_<=140737488355328 then
        some (.sl k b 0 (n+ys.length) none,st.set b (.row el k (Z7 xs n ys))) else none
      | _=>none
     | _=>none
    | none=>none
   else none
  | _,_,_=>none
 | none=>none
def bytesOf(s:List UInt8):List LV:=s.map fun b=>.int .u8 (b.toNat:Int)
def lcopySrc(P:Program)(el:Nat)(x:LV)(st:St):Option (List LV):=
 match x with
 | .str y=>if Y4 P el then some (bytesOf y) else none
 | x=>lelems P el 1 x st
def lcopy(P:Program)(t:TypeId)(x y:LV)(st:St):Option (LV × St):=
 match Xn P t with
 | some el =>
  match Yu P el,lcopySrc P el y st with
  | some (_,1),some ys =>
   match x with
   | .nils=>some (.int .i64 0,st)
   | .sl 1 b i n _ =>
    match st.look b with
    | some (.row e k xs)=>if e=el/\k=1/\i+n<=xs.length then
      some (.int .i64 (min ys.length n:Nat),st.set b (.row e k (Z7 xs i (ys.take (min ys.length n))))) else none
    | _=>none
   | .asl b o n _ =>
    match st.look b with
    | some (.box e cs)=>if o+min ys.length n<=cs.length then
      some (.int .i64 (min ys.length n:Nat),st.set b (.box e (Z7 cs o (Zi ((ys.take (min ys.length n)).flatMap Z4))))) else none
    | _=>none
   | _=>none
  | _,_=>none
 | none=>none
def llen(P:Program)(t:TypeId)(x:LV)(st:St):Option LV:=
 match Xn P t with
 | some _ =>
  match x with
  | .isl _ xs=>some (.int .i64 xs.length)
  | .nils=>some (.int .i64 0)
  | .sl _ _ _ n _=>some (.int .i64 n)
  | .asl _ _ n _=>some (.int .i64 n)
  | _=>none
 | none =>
  match arrT P t with
  | some (n,_)=>some (.int .i64 n)
  | none =>
   match x with
   | .str y=>if isStrT P t then some (.int .i64 y.length) else none
   | .nilm=>if isMapT P t then some (.int .i64 0) else none
   | .map b=>if isMapT P t then
     match st.look b with
     | some (.map _ es)=>some (.int .i64 es.length)
     | _=>none
    else none
   | _=>none
mutual
def Z5:LV->List Nat
 | .ptr b _=>[b]
 | .pel _ b _ _=>[b]
 | .sl _ b _ _ _=>[b]
 | .asl b _ _ _=>[b]
 | .map b=>[b]
 | .yld b=>[b]
 | .ifc _ x=>Z5 x
 | .fn _ a c=>Z9 a++Z9 c
 | .agg xs=>Z9 xs
 | .tup xs=>Z9 xs
 | _=>[]
def Z9:List LV->List Nat
 | []=>[]
 | x::l=>Z5 x++Z9 l
end
def Yk:List (Int × LV)->Int->Option LV
 | [],_=>none
 | (k,v)::l,n=>if k=n then some v else Yk l n
def kset:List (Int × LV)->Int->LV->List (Int × LV)
 | [],_,_=>[]
 | (k,v)::l,n,x=>if k=n then (n,x)::l else (k,v)::kset l n x
def kins:List (Int × LV)->Int->LV->List (Int × LV)
 | [],n,x=>[(n,x)]
 | (k,v)::l,n,x=>if n<k then (n,x)::(k,v)::l else (k,v)::kins l n x
def Wy(l:List (Int × LV))(n:Int)(x:LV):List (Int × LV):=if (Yk l n).isSome then kset l n x else kins l n x
def kdel:List (Int × LV)->Int->List (Int × LV)
 | [],_=>[]
 | (k,v)::l,n=>if k=n then l else (k,v)::kdel l n
def llookup(P:Program)(t:TypeId)(m i:LV)(commaOk:Bool)(st:St):Option LV:=
 match mapT P t,i with
 | some (k,el),.int k' n =>
  if k'=k then
   match zelem P el with
   | some z =>
    match m with
    | .nilm=>some (if commaOk then .tup [z,.bool false] else z)
    | .map b =>
     match st.look b with
     | some (.map k'' es)=>if k''=k then
       match Yk es n with
       | some x=>some (if commaOk then .tup [Zs x,.bool true] else Zs x)
       | none=>some (if commaOk then .tup [z,.bool false] else z)
      else none
     | _=>none
    | _=>none
   | none=>none
  else none
 | _,_=>none
def lmapUpdate(P:Program)(t:TypeId)(m i x:LV)(st:St):Option St:=
 match mapT P t,i,m with
 | some (k,el),.int k' n,.map b =>
  match st.look b with
  | some (.map k'' es)=>if k'=k/\k''=k then some (st.set b (.map k (Wy es n x))) else none
  | _=>none
 | _,_,_=>none
def ldelete(P:Program)(t:TypeId)(m i:LV)(st:St):Option St:=
 match mapT P t,i,m with
 | some (k,el),.int k' n,.map b =>
  match st.look b with
  | some (.map k'' es)=>if k'=k/\k''=k then some (st.set b (.map k (kdel es n))) else none
  | _=>none
 | _,_,_=>none
def lextract(x:LV)(i:Nat):Option LV:=
 match x with
 | .tup us=>us[i]?
 | _=>none
def Wa(t:Bool)(x y:LV):Option LV:=
 match x,y with
 | .bool a,.bool b=>some (.bool (if t then a else b))
 | x,y=>some (if t then x else y)
def lassert(P:Program)(x:LV)(as:TypeId)(c:Bool):Option LV:=
 match c,Yl P as with
 | true,some false =>
  match zelem P as with
  | some z =>
   match x with
   | .nili=>some (.tup [z,.bool false])
   | .ifc t y=>some (if t=as then .tup [y,.bool true] else .tup [z,.bool false])
   | _=>none
  | none=>none
 | true,some true =>
  match zelem P as with
  | some .nili =>
   match x with
   | .nili=>some (.tup [.nili,.bool false])
   | .ifc t y=>match implT P as t with
    | some true=>some (.tup [.ifc t y,.bool true])
    | some false=>some (.tup [.nili,.bool false])
    | none=>none
   | _=>none
  | _=>none
 | false,some true =>
  match x with
  | .ifc t y=>match implT P as t with
   | some true=>some (.ifc t y)
   | _=>none
  | _=>none
 | false,some false =>
  match x with
  | .ifc t y=>if t=as then some y else none
  | _=>none
 | _,none=>none
def evs(e:LEnv):List Operand->List LV
 | []=>[]
 | x::l=>e.ev x::evs e l
def lmm(mx:Bool)(x y:LV):Option LV:=
 match x,y with
 | .int k a,.int _ b=>some (.int k (if mx then (if a<b then b else a) else (if b<a then b else a)))
 | _,_=>none
def meth?(P:Program)(t:TypeId)(m:String):Option FuncId:=
 match P.info? t,P.underlying t with
 | some i,some d =>
  match i.methods.find? (·.name==m) with
  | some q =>
   if q.path.isEmpty then
    match q.func with
    | some (f,true)=>if d matches .pointer _ then some f else none
    | some (f,false)=>if d matches .pointer _ then none else some f
    | none=>none
   else none
  | none=>none
 | _,_=>none
abbrev Zz:=FuncId->List LV->St->Option (LV × St)
def pureCall(call:Zz)(f:FuncId)(as:List LV):Option LV:=
 match call f as ⟨0,[]⟩ with
 | some (v,_)=>if (Z5 v).isEmpty then some v else none
 | none=>none
def doCall(call:Zz)(f:FuncId)(as:List LV)(st:St):Option (LV × St):=
 if (Z9 as).isEmpty then
  match pureCall call f as with
  | some v=>some (v,st)
  | none=>call f as st
 else call f as st
def fnCall(P:Program)(c:Call)(e:LEnv):Option (FuncId × List LV):=
 match c.callee with
 | .value x =>
  match e.ev x with
  | .fn f first caps=>if first.all LV.cap&&caps.all LV.cap then some (f,first++evs e c.args.toList++caps) else none
  | _=>none
 | .invoke r m =>
  match e.ev r with
  | .ifc t y =>
   match meth? P t m with
   | some f=>some (f,y::evs e c.args.toList)
   | none=>none
  | _=>none
 | .builtin _=>none
def lcallOp(P:Program)(call:Zz)(c:Call)(e:LEnv)(st:St):Option (LV × St):=
 match c.callee with
 | .builtin b =>
  match b,c.args.toList,c.argTypes.toList with
  | .len,[x],[t]=>(llen P t (e.ev x) st).map (·,st)
  | .append,[x,y],[t,t']=>if t=t' then lappend P t (e.ev x) (e.ev y) st else none
  | .copy,[x,y],[t,t']=>lcopy P t (e.ev x) (e.ev y) st
  | .max,[x,y],_=>(lmm true (e.ev x) (e.ev y)).map (·,st)
  | .max,[x,y,z],_=>((lmm true (e.ev x) (e.ev y)).bind fun w=>lmm true w (e.ev z)).map (·,st)
  | .min,[x,y],_=>(lmm false (e.ev x) (e.ev y)).map (·,st)
  | .delete,[x,y],[t,t']=>(ldelete P t (e.ev x) (e.ev y) st).map (.tup [],·)
  | _,_,_=>none
 | _=>match fnCall P c e with
  | some (f,as)=>doCall call f as st
  | none=>none
def okOpd(e:LEnv)(x:Operand):Bool:=
 match x with
 | .tmp _=>true
 | _=>!(e.ev x).isAny
def lopB(P:Program)(call:Zz)(o:Op)(e:LEnv)(st:St):Option (LV × St):=
 match o with
 | .move x=>some (e.ev x,st)
 | .assign x=>some (e.ev x,st)
 | .pick c x y=>match e.ev c with
  | .bool t=>(Wa t (e.ev x) (e.ev y)).map (·,st)
  | _=>none
 | .alloc t=>lalloc P t st
 | .box t x=>lbox t (e.ev x) st
 | .build t ps=>(lbuild P e t ps).map (·,st)
 | .buildSlice t len ps=>lbuildSlice P e st t len ps
 | .load t x=>lload P t (e.ev x) st
 | .store t x y=>(lstore P t (e.ev x) (e.ev y) st).map (.any,·)
 | .nilCheck x=>match e.ev x with
  | .ptr b o=>some (.ptr b o,st)
  | .pel k b i o=>some (.pel k b i o,st)
  | .irp u=>some (.irp u,st)
  | _=>none
 | .binOp op t x y _=>(lbin P op t y (e.ev x) (e.ev y)).map (·,st)
 | .unOp op _ x=>(lun op (e.ev x)).map (·,st)
 | .convert src dst x=>(lconv P src dst (e.ev x)).map (·,st)
 | .makeInterface t x=>if Yl P t=some false/\(e.ev x).isAny=false then some (.ifc t (e.ev x),st) else none
 | .makeFunc (.func f) first caps=>if (evs e first.toList).all LV.cap/\(evs e caps.toList).all LV.cap then some (.fn f (evs e first.toList) (evs e caps.toList),st) else none
 | .makeMap t r=>match mapT P t,optI (r.map e.ev) with
  | some (k,_),some _=>some (.map st.next,st.add (.map k []))
  | _,_=>none
 | .makeSlice t l c=>lmakeSlice P t (e.ev l) (e.ev c) st
 | .slice t x lo hi mx=>(lslice P t (e.ev x) (lo.map e.ev) (hi.map e.ev) (mx.map e.ev) st).map (·,st)
 | .fieldAddr t x f=>(lfieldAddr P t (e.ev x) f).map (·,st)
 | .field t x f=>(lfield P t (e.ev x) f).map (·,st)
 | .indexAddr t x i=>(Wf P t (e.ev x) (e.ev i)).map (·,st)
 | .index t x i=>(lindex P t (e.ev x) (e.ev i)).map (·,st)
 | .lookup t m i c=>(llookup P t (e.ev m) (e.ev i) c st).map (·,st)
 | .mapUpdate t m i x=>(lmapUpdate P t (e.ev m) (e.ev i) (e.ev x) st).map (.any,·)
 | .typeAssert x _ as c=>(lassert P (e.ev x) as c).map (·,st)
 | .extract x i=>(lextract (e.ev x) i).map (·,st)
 | .call c=>lcallOp P call c e st
 | _=>none
def lop(P:Program)(call:Zz)(o:Op)(e:LEnv)(st:St):Option (LV × St):=
 if o.operands.toList.all (okOpd e) then lopB P call o e st else none
def Y1(P:Program):LObj->List Nat
 | .box _ cs=>Z9 cs
 | .row e _ xs=>if Y4 P e then [] else Z9 xs
 | .map _ _=>[]
 | .lp env _ _ _ _ _=>Z9 env
def gath(P:Program)(st:St):Nat->List Nat->List Nat->List Nat
 | 0,_,acc=>acc
 | _+1,[],acc=>acc
 | n+1,b::w,acc =>
  if acc.contains b then gath P st n w acc else
  match st.look b with
  | none=>gath P st n w acc
  | some o=>gath P st n (Y1 P o++w) (acc++[b])
def gfuel:Nat:=1000000
def X5(P:Program)(as:List LV)(st:St):List Nat:=gath P st gfuel (Z9 as) []
def orefsAll(P:Program)(st:St):List Nat->List Nat
 | []=>[]
 | b::l=>(match st.look b with | some o=>Y1 P o | none=>[])++orefsAll P st l
def W3(P:Program)(m:Nat)(vs:List LV)(st:St):List Nat:=
 gath P st gfuel (orefsAll P st (List.range m)++Z9 vs) (List.range m)
def ixOf:List Nat->Nat->Nat->Option Nat
 | [],_,_=>none
 | k::l,b,i=>if k=b then some i else ixOf l b (i+1)
mutual
def ren(r:Nat->Option Nat):LV->LV
 | .ptr b o=>match r b with | some b'=>.ptr b' o | none=>.any
 | .pel k b i o=>match r b with | some b'=>.pel k b' i o | none=>.any
 | .sl k b i n c=>match r b with | some b'=>.sl k b' i n c | none=>.any
 | .asl b o n c=>match r b with | some b'=>.asl b' o n c | none=>.any
 | .map b=>match r b with | some b'=>.map b' | none=>.any
 | .yld b=>match r b with | some b'=>.yld b' | none=>.any
 | .ifc t x=>.ifc t (ren r x)
 | .fn f a c=>.fn f (Wb r a) (Wb r c)
 | .agg xs=>.agg (Wb r xs)
 | .tup xs=>.tup (Wb r xs)
 | x=>x
def Wb(r:Nat->Option Nat):List LV->List LV
 | []=>[]
 | x::l=>ren r x::Wb r l
end
def renO(P:Program)(r:Nat->Option Nat):LObj->LObj
 | .box e cs=>.box e (Wb r cs)
 | .row e k xs=>if Y4 P e then .row e k xs else .row e k (Wb r xs)
 | .map k es=>.map k es
 | .lp env ps a b d p=>.lp (Wb r env) ps a b d p
def reobjs(P:Program)(st:St)(r:Nat->Option Nat):List Nat->List (Nat × LObj)
 | []=>[]
 | b::l=>match st.look b,r b with
  | some o,some i=>(i,renO P r o)::reobjs P st r l
  | _,_=>reobjs P st r l
def recanon(P:Program)(ks:List Nat)(st:St):St:={ next:=ks.length,objs:=reobjs P st (fun b=>ixOf ks b 0) ks }
def bit(i:Nat):Nat:=1 <<< i
def tmpBit:Operand->Nat
 | .tmp t=>bit t
 | _=>0
def tmpBits:List Operand->Nat
 | []=>0
 | x::l=>tmpBit x ||| tmpBits l
def unbit(m i:Nat):Nat:=if m.testBit i then m ^^^ bit i else m
def liveOps:List Oper->Nat->Nat
 | [],out=>out
 | o::l,out =>
  let m:=liveOps l out
  (match o.dst with | some d=>unbit m d | none=>m) ||| tmpBits o.op.operands.toList
def exMask:List (Nat × Nat)->Nat->Nat
 | [],_=>0
 | (k,m)::l,i=>if k=i then m else exMask l i
def live(ret:Nat):Code->List (Nat × Nat)->Nat->Nat
 | .skip,_,out=>out
 | .region _ ops _,_,out=>liveOps ops.toList out
 | .seq a b,ex,out=>live ret a ex (live ret b ex out)
 | .cond c a b,ex,out=>tmpBit c ||| live ret a ex out ||| live ret b ex out
 | .block id c,ex,out=>live ret c ((id,out)::ex) out
 | .loop c,ex,_=>live ret c ex 0
 | .rangeFunc g _ a b,ex,out=>tmpBit g ||| live ret a ex (live ret b ex out) ||| out
 | .exit id,ex,_=>exMask ex id
 | .ret,_,_=>ret
 | _,_,out=>out
def scrubF(mask:Nat):List LV->Nat->List LV
 | [],_=>[]
 | x::l,i=>(if mask.testBit i then x else .any)::scrubF mask l (i+1)
def tidy(P:Program)(m mask:Nat)(e:LEnv)(st:St):LEnv × St:=
 let e1:=scrubF mask e 0
 let ks:=W3 P m e1 st
 (Wb (fun b=>ixOf ks b 0) e1,recanon P ks st)
def W0(n:Nat):Option Nat->Bool
 | some m=>decide (n<=m)
 | none=>true
mutual
def fsub(b k0:Nat)(xs:List LV):LV->LV
 | .sl k b' i n c=>if b'=b then (if k=k0/\i+n<=xs.length/\W0 n c then .isl k ((xs.drop i).take n) else .any) else .sl k b' i n c
 | .ifc t x=>.ifc t (fsub b k0 xs x)
 | .agg ys=>.agg (fsubL b k0 xs ys)
 | .tup ys=>.tup (fsubL b k0 xs ys)
 | x=>x
def fsubL(b k0:Nat)(xs:List LV):List LV->List LV
 | []=>[]
 | y::l=>fsub b k0 xs y::fsubL b k0 xs l
end
def fsubO(b k0:Nat)(xs:List LV):List (Nat × LObj)->List (Nat × LObj)
 | []=>[]
 | (k,.box e cs)::l=>(k,.box e (fsubL b k0 xs cs))::fsubO b k0 xs l
 | p::l=>p::fsubO b k0 xs l
mutual
def slIds:LV->List Nat
 | .sl _ b _ _ _=>[b]
 | .ifc _ x=>slIds x
 | .agg xs=>slIdsL xs
 | .tup xs=>slIdsL xs
 | _=>[]
def slIdsL:List LV->List Nat
 | []=>[]
 | x::l=>slIds x++slIdsL l
end
def frz:List Nat->LEnv->St->LEnv × St
 | [],e,st=>(e,st)
 | b::l,e,st =>
  match st.look b with
  | some (.row _ k xs)=>frz l (fsubL b k xs e) { st with objs:=fsubO b k xs (Yo st.objs b) }
  | _=>frz l e st
def ghostIds(o:Op)(e:LEnv):List Nat:=
 match o with
 | .buildSlice t _ ps=>if deepS t then [] else slIdsL (evs e (ps.toList.map (·.2)))
 | .store _ p x=>match e.ev p with
  | .pel ..=>slIds (e.ev x)
  | _=>[]
 | .mapUpdate _ _ _ x=>slIds (e.ev x)
 | _=>[]
def ghostAll(o:Op)(e:LEnv):List Nat:=
 match o with
 | .call c=>match c.callee with
  | .value (.func f)=>if frzF f then slIdsL (evs e c.args.toList) else []
  | _=>[]
 | o=>ghostIds o e
inductive LX where
 | norm
 | exit (id:Nat)
 | ret
 deriving DecidableEq
def lguard(ops:List Oper)(e:LEnv)(j:Nat)(want:Bool):Option Bool:=
 match (ops[j]?).bind (·.dst) with
 | some d=>match e.get d with
  | .bool b=>some b
  | .tup []=>some (!want)
  | _=>none
 | none=>none
def skipV(ops:List Oper)(o:Oper):LV:=
 if ops.any (fun q=>match q.guard with | some (j,_)=>o.dst.isSome&&(((ops[j]?).bind (·.dst))==o.dst) | none=>false) then .tup [] else .any
def lopQ(P:Program)(call:Zz)(o:Op)(e:LEnv)(st:St):Option (LV × St):=
 match o with
 | .call c =>
  match c.callee with
  | .builtin _=>lop P call o e st
  | _=>match fnCall P c e with
   | some (f,as)=>if (Z9 as).isEmpty/\o.operands.toList.all (okOpd e) then (pureCall call f as).map (·,st) else none
   | none=>none
 | o=>lop P call o e st
def lone(P:Program)(call:Zz)(o:Oper)(e:LEnv)(st:St):Option (LEnv × St):=
 match ghostAll o.op e with
 | []=>match lop P call o.op e st with
  | some (v,st1)=>some (e.put o.dst v,st1)
  | none=>none
 | l=>match lop P call o.op (frz l e st).1 (frz l e st).2 with
  | some (v,st1)=>some ((frz l e st).1.put o.dst v,st1)
  | none=>none
def lops(P:Program)(call:Zz)(ops:List Oper):List Oper->LEnv->St->Option (LEnv × St)
 | [],e,st=>some (e,st)
 | o::l,e,st =>
  match o.guard with
  | none=>match lone P call o e st with
   | some (e1,st1)=>lops P call ops l e1 st1
   | none=>none
  | some (j,want)=>match lguard ops e j want with
   | some b=>if b=want then
     match lone P call o e st with
     | some (e1,st1)=>lops P call ops l e1 st1
     | none=>none
    else lops P call ops l (e.put o.dst (skipV ops o)) st
   | none=>none
def lineFrom(ops:List Oper):Nat->Nat
 | 0=>0
 | m+1=>if (List.range m).all (fun j=>reach ops ops.length m j) then lineFrom ops m else m+1
def Xy(P:Program):Op->Bool
 | .store ..=>true
 | .call c=>match c.callee with
  | .value _=>c.argTypes.toList.any (isPtrT P)
  | _=>false
 | _=>false
def openIds:List Nat->St->St
 | [],st=>st
 | b::l,st =>
  match st.look b with
  | some (.box _ cs) =>
   match W5 st b 0 cs.length with
   | some (_,st1)=>openIds l st1
   | none=>openIds l st
  | _=>openIds l st
def isLoad:Op->Bool
 | .load ..=>true
 | _=>false
def openFor(l:List Oper)(st:St):St:=if l.any (fun o=>isLoad o.op) then openIds (st.objs.map (·.1)) st else st
def quietOp:Op->Bool
 | .move _=>true
 | .assign _=>true
 | .pick ..=>true
 | .build ..=>true
 | .load ..=>true
 | .nilCheck _=>true
 | .binOp ..=>true
 | .unOp ..=>true
 | .convert ..=>true
 | .makeInterface ..=>true
 | .makeFunc ..=>true
 | .slice ..=>true
 | .fieldAddr ..=>true
 | .field ..=>true
 | .indexAddr ..=>true
 | .index ..=>true
 | .lookup ..=>true
 | .typeAssert ..=>true
 | .extract ..=>true
 | .call c=>match c.callee with
  | .builtin .len=>true
  | .builtin .max=>true
  | .builtin .min=>true
  | .value _=>true
  | _=>false
 | _=>false
def lopN(P:Program)(call:Zz)(o:Op)(e:LEnv)(st:St):Option (LV × St):=
 match Xy P o with
 | true=>lop P call o e st
 | false=>lopQ P call o e st
def Zy:Op->Option TypeId
 | .alloc t=>some t
 | _=>none
def lopS(P:Program)(call:Zz)(o:Op)(e:LEnv)(st:St):Option (LV × St):=
 match Zy o with
 | some _=>some (.any,st)
 | none =>
 if (ghostIds o e).isEmpty&&(quietOp o||Xy P o) then
  match lopN P call o e st with
  | some (v,st1)=>if st1.next=st.next/\(Z5 v).all (fun b=>decide (b<st.next)) then some (v,st1) else none
  | none=>none
 else none
def gopS(P:Program)(call:Zz)(ops:List Oper)(o:Oper)(e:LEnv)(st:St):Option (LV × St):=
 match o.guard with
 | none=>lopS P call o.op e st
 | some (j,want)=>match lguard ops e j want with
  | some b=>if b=want then lopS P call o.op e st else some (skipV ops o,st)
  | none=>none
def lrunS(P:Program)(call:Zz)(ops:List Oper):List Oper->LEnv->St->Option (List LV × List St)
 | [],_,st=>some ([],[st])
 | o::l,e,st =>
  match gopS P call ops o e st with
  | some (v,st1) =>
   match lrunS P call ops l (e.put o.dst v) st1 with
   | some (vs,S)=>some (v::vs,if Xy P o.op then st::S else S)
   | none=>none
  | none=>none
def laccs(P:Program):List Oper->List LV->St->Option (List LV × St)
 | o::l,v::vs,acc =>
  match Zy o.op with
  | some t =>
   if o.guard.isNone then
    match lalloc P t acc with
    | some (w,acc1) =>
     match laccs P l vs acc1 with
     | some (ws,a)=>some (w::ws,a)
     | none=>none
    | none=>none
   else none
  | none =>
   match laccs P l vs acc with
   | some (ws,a)=>some (v::ws,a)
   | none=>none
 | _,_,acc=>some ([],acc)
def Yd:List Oper->List LV->LEnv->LEnv
 | o::l,v::vs,e=>Yd l vs (e.put o.dst v)
 | _,_,e=>e
mutual
def LV.eqb:LV->LV->Bool
 | .int k n,.int k' n'=>k==k'&&n==n'
 | .bool b,.bool b'=>b==b'
 | .str s,.str s'=>s==s'
 | .nilp,.nilp=>true
 | .ptr b o,.ptr b' o'=>b==b'&&o==o'
 | .pel k b i o,.pel k' b' i' o'=>k==k'&&b==b'&&i==i'&&o==o'
 | .irp x,.irp y=>LV.eqb x y
 | .nils,.nils=>true
 | .sl k b i n c,.sl k' b' i' n' c'=>k==k'&&b==b'&&i==i'&&n==n'&&c==c'
 | .isl k xs,.isl k' ys=>k==k'&&LV.eqbL xs ys
 | .nilm,.nilm=>true
 | .map b,.map b'=>b==b'
 | .nili,.nili=>true
 | .ifc t x,.ifc t' y=>t==t'&&LV.eqb x y
 | .nilf,.nilf=>true
 | .agg xs,.agg ys=>LV.eqbL xs ys
 | .tup xs,.tup ys=>LV.eqbL xs ys
 | .any,.any=>true
 | _,_=>false
def LV.eqbL:List LV->List LV->Bool
 | [],[]=>true
 | x::l,y::m=>LV.eqb x y&&LV.eqbL l m
 | _,_=>false
end
def memFree:Op->Bool
 | .load ..=>false
 | .store ..=>false
 | .lookup ..=>false
 | .slice ..=>false
 | .call c=>match c.callee with
  | .builtin _=>false
  | _=>true
 | _=>true
def loOf(P:Program)(ops:List Oper)(m i:Nat):Nat:=cnt (fun j=>((ops[j]?).any fun q=>Xy P q.op)&&reach ops ops.length i j) m
def hiOf(P:Program)(ops:List Oper)(m i:Nat):Nat:=cnt (fun j=>((ops[j]?).any fun q=>Xy P q.op)&&(!reach ops ops.length j i&&j != i)) m
def sameAt(P:Program)(call:Zz)(ops:List Oper)(o:Oper)(e:LEnv)(v:LV)(st:St):Bool:=
 match gopS P call ops o e st with
 | some (w,_)=>LV.eqb v w
 | none=>false
def lchk(P:Program)(call:Zz)(ops:List Oper)(m:Nat)(S:List St):Nat->List Oper->List LV->LEnv->Bool
 | i,o::l,v::vs,e =>
  (if loOf P ops m i==hiOf P ops m i then true
   else if Xy P o.op then false
   else if memFree o.op then true
   else (List.range S.length).all fun k=>if decide (loOf P ops m i<=k)&&decide (k<=hiOf P ops m i) then (match S[k]? with | some st=>sameAt P call ops o e v st | none=>false) else true) &&
  lchk P call ops m S (i+1) l vs (e.put o.dst v)
 | _,_,_,_=>true
def freeAt(P:Program)(ops:List Oper)(j:Nat):Bool:=(ops[j]?).any fun q=>memFree q.op&&!Xy P q.op&&(Zy q.op).isNone
def lineB(P:Program)(ops:List Oper):Nat->Nat
 | 0=>0
 | m+1=>if (List.range m).all (fun j=>reach ops ops.length m j||freeAt P ops j) then lineB P ops m else m+1
def floatOk(P:Program)(ops:List Oper)(m:Nat):Bool:=
 decide (m<ops.length)&&(List.range ops.length).all fun i=>decide (i<m)||((ops[i]?).any (fun q=>(Zy q.op).isNone)&&(List.range i).all fun j=>reach ops ops.length i j||(decide (j<m)&&freeAt P ops j))
def lregB(P:Program)(call:Zz)(ops:List Oper)(e:LEnv)(st:St):Option (LEnv × St):=
 match some (lineB P ops ops.length) with
 | some m =>
  if Yw ops ops.length&&floatOk P ops m then
   match lrunS P call ops (ops.take m) e (openFor ops st) with
   | some (vs,S) =>
    if S.length=1∨lchk P call ops m S 0 (ops.take m) vs e=true then
     match S.getLast? with
     | some stK =>
      match laccs P (ops.take m) vs stK with
      | some (ws,stA) =>
       match lrunS P call ops (ops.drop m) (Yd (ops.take m) ws e) stA with
       | some (us,T) =>
        match T.getLast? with
        | some stZ=>some (Yd ops (ws++us) e,stZ)
        | none=>none
       | none=>none
      | none=>none
     | none=>none
    else none
   | none=>none
  else none
 | none=>none
def mixA(P:Program)(l:List Oper):Bool:=l.any (fun o=>(Zy o.op).isSome)&&l.any fun o=>Xy P o.op
def lregion(P:Program)(call:Zz)(n:Nat)(ops:List Oper)(draw:Bool)(e:LEnv)(st:St):Option (LEnv × St):=
 if okOps n ops then
  if draw then
   match some (lineFrom ops ops.length) with
   | some m=>if mixA P (ops.take m) then lregB P call ops e st else if Yw ops m then
     match lrunS P call ops (ops.take m) e (openFor (ops.take m) st) with
     | some (vs,S) =>
      if S.length=1∨lchk P call ops m S 0 (ops.take m) vs e=true then
       match S.getLast? with
       | some stK =>
        match laccs P (ops.take m) vs stK with
        | some (ws,stA)=>lops P call ops (ops.drop m) (Yd (ops.take m) ws e) stA
        | none=>none
       | none=>none
      else none
     | none=>none
    else none
   | none=>none
  else lops P call ops ops e st
 else none
def exitM(ret:Nat)(ex:List (Nat × Nat)):LX->Nat
 | .exit i=>exMask ex i
 | _=>ret
def lloop(P:Program)(m mask:Nat)(xm:LX->Nat)(f:LEnv->St->Option (LX × LEnv × St)):Nat->LEnv->St->Option (LX × LEnv × St)
 | 0,_,_=>none
 | n+1,e,st =>
  match f (tidy P m mask e st).1 (tidy P m mask e st).2 with
  | some (.norm,e1,st1)=>lloop P m mask xm f n e1 st1
  | some (x,e1,st1)=>some (x,(tidy P m (xm x) e1 st1).1,(tidy P m (xm x) e1 st1).2)
  | none=>none
structure Fm where
 n:Nat
 m:Nat
 ret:Nat
def Y5(P:Program)(call:Zz)(fu:Nat)(F:Fm):Code->List (Nat × Nat)->Nat->LEnv->St->Option (LX × LEnv × St)
 | .skip,_,_,e,st=>some (.norm,e,st)
 | .region _ ops draw,_,_,e,st =>
  match lregion P call F.n ops.toList draw e st with
  | some (e1,st1)=>some (.norm,e1,st1)
  | none=>none
 | .seq a b,ex,out,e,st =>
  match Y5 P call fu F a ex (live F.ret b ex out) e st with
  | some (.norm,e1,st1)=>Y5 P call fu F b ex out e1 st1
  | r=>r
 | .cond c a b,ex,out,e,st =>
  match e.ev c with
  | .bool true=>Y5 P call fu F a ex out e st
  | .bool false=>Y5 P call fu F b ex out e st
  | _=>none
 | .block id c,ex,out,e,st =>
  match Y5 P call fu F c ((id,out)::ex) out e st with
  | some (.exit i,e1,st1)=>if i=id then some (.norm,(tidy P F.m out e1 st1).1,(tidy P F.m out e1 st1).2) else some (.exit i,e1,st1)
  | r=>r
 | .loop c,ex,out,e,st=>lloop P F.m (live F.ret c ex 0) (exitM F.ret ex) (fun e1 st1=>Y5 P call fu F c ex (live F.ret c ex 0) e1 st1) fu e st
 | .exit id,_,_,e,st=>some (.exit id,e,st)
 | .ret,_,_,e,st=>some (.ret,e,st)
 | _,_,_,_,_=>none
def resMask:List ResultVar->Nat
 | []=>0
 | .tmp t::l=>bit t ||| resMask l
 | .cell a _::l=>bit a ||| resMask l
def lpeek(P:Program)(t:TypeId)(p:LV)(st:St):Option LV:=
 match p with
 | .ptr b o =>
  match st.look b with
  | some (.box _ cs) =>
   match Yu P t with
   | some (true,n)=>if o+n<=cs.length/\((cs.drop o).take n).all LV.plain then some (.agg ((cs.drop o).take n)) else none
   | some (false,_)=>match cs[o]? with
    | some c=>if c.plain then some c else none
    | none=>none
   | none=>none
  | _=>none
 | _=>none
def lres(P:Program):List ResultVar->LEnv->St->Option (List LV)
 | [],e,st=>some []
 | .tmp t::l,e,st=>match lres P l e st with
  | some vs=>some (e.get t::vs)
  | none=>none
 | .cell a t::l,e,st=>match lpeek P t (e.get a) st,lres P l e st with
  | some v,some vs=>some (v::vs)
  | _,_=>none
def oneTup:List LV->LV
 | [u]=>u
 | us=>.tup us
def nrmC(P:Program)(t:TypeId)(v:LV):LV:=
 match v with
 | .nils=>match Xn P t with
  | some el=>match Yu P el with
   | some (_,k)=>.isl k []
   | none=>v
  | none=>v
 | _=>v
def nrmL(P:Program):List TypeId->List LV->List LV
 | t::ts,v::vs=>nrmC P t v::nrmL P ts vs
 | _,vs=>vs
def nrm1(P:Program)(t:TypeId)(v:LV):LV:=
 match v with
 | .agg us=>.agg (nrmL P (cellTys P t) us)
 | v=>nrmC P t v
def nrmA(P:Program):List TypeId->List LV->List LV
 | t::ts,v::vs=>nrm1 P t v::nrmA P ts vs
 | _,vs=>vs
def nrmV(P:Program)(tys:List TypeId)(v:LV):LV:=
 match tys with
 | [t]=>nrm1 P t v
 | _=>match v with
  | .tup us=>.tup (nrmA P tys us)
  | v=>v
def restC(P:Program)(t:TypeId)(c:LV)(st:St):LV × St:=
 match c with
 | .nils=>match Xn P t with
  | some el=>match Yu P el with
   | some (_,k)=>(.own el k [],st)
   | none=>(c,st)
  | none=>(c,st)
 | .sl k b 0 n none=>match st.look b with
  | some (.row e k' xs)=>if k'=k/\xs.length=n/\Y4 P e then (.own e k xs,st.del b) else (c,st)
  | _=>(c,st)
 | .map b=>match st.look b with
  | some (.map k es)=>(.omap k (es.map (·.1)) (es.map (·.2)),st.del b)
  | _=>(c,st)
 | _=>(c,st)
def restL(P:Program):List TypeId->List LV->St->List LV × St
 | t::ts,c::cs,st =>
  let r:=restC P t c st
  let r2:=restL P ts cs r.2
  (r.1::r2.1,r2.2)
 | _,cs,st=>(cs,st)
def X6(P:Program):List Nat->St->St
 | [],st=>st
 | b::l,st=>match st.look b with
  | some (.box e cs)=>if isMapT P e then X6 P l st else X6 P l ((restL P (cellTys P e) cs st).2.set b (.box e (restL P (cellTys P e) cs st).1))
  | _=>X6 P l st
structure Cfg where
 ext:FuncId->Option (List LV->St->Option (LV × St))
 keep:FuncId->Bool
def lcore(P:Program)(C:Cfg)(call:Zz)(fu:Nat)(f:FuncId)(as:List LV)(st:St):Option (LV × St):=
 match C.ext f with
 | some F=>F as st
 | none =>
  match P.funcs[f]? with
  | some fn =>
   match fn.body with
   | some c =>
    if as.length<=fn.ntmps/\(fn.name == "runtime.NumGoroutine")=false then
     match Y5 P call fu ⟨fn.ntmps,st.next,resMask fn.results.toList⟩ c [] (resMask fn.results.toList) (as++List.replicate (fn.ntmps-as.length) .any) st with
     | some (.exit _,_,_)=>none
     | some (_,e1,st1)=>match lres P fn.results.toList e1 st1 with
      | some vs=>some (oneTup vs,st1)
      | none=>none
     | none=>none
    else none
   | none=>none
  | none=>none
def lexit(P:Program)(keep:Bool)(tys:List TypeId)(m:Nat)(v:LV)(st1:St):LV × St:=
 let f:=if keep then ([v],st1) else frz (slIds v) [v] st1
 let st2:=X6 P (W3 P m f.1 f.2) f.2
 let v2:=if keep then LEnv.get f.1 0 else nrmV P tys (LEnv.get f.1 0)
 let ids2:=W3 P m [v2] st2
 (ren (fun b=>ixOf ids2 b 0) v2,recanon P ids2 st2)
def resTys(P:Program)(f:FuncId):List TypeId:=
 match P.funcs[f]? with
 | some fn=>fn.resultTypes.toList
 | none=>[]
def Zd(P:Program)(C:Cfg)(call:Zz)(n:Nat)(f:FuncId)(as:List LV)(st:St):Option (LV × St):=
 match lcore P C call n f as st with
 | some (v,st1)=>some (lexit P (C.keep f) (resTys P f) st.next v st1)
 | none=>none
def backOf(ks:List Nat)(next top:Nat)(j:Nat):Option Nat:=if j<ks.length then ks[j]? else if j<top then some (next+(j-ks.length)) else none
def odels(l:List (Nat × LObj)):List Nat->List (Nat × LObj)
 | []=>l
 | b::ks=>odels (Yo l b) ks
def lback(P:Program)(ks:List Nat)(st:St)(v:LV)(st1:St):LV × St:=
 (ren (backOf ks st.next st1.next) v,{ next:=st.next+(st1.next-ks.length),objs:=reobjs P st1 (backOf ks st.next st1.next) (List.range st1.next)++odels st.objs ks })
def lcallAt(P:Program)(run:List LV->St->Option (LV × St))(as:List LV)(ks:List Nat)(st:St):Option (LV × St):=
 match run (Wb (fun b=>ixOf ks b 0) as) (recanon P ks st) with
 | some (v,st1)=>some (lback P ks st v st1)
 | none=>none
def lcallV(P:Program)(run:List LV->St->Option (LV × St))(as:List LV)(st:St):Option (LV × St):=
 lcallAt P run as (X5 P as (X6 P (X5 P as st) st)) (X6 P (X5 P as st) st)
def Z3(P:Program)(C:Cfg):Nat->Zz
 | 0,_,_,_=>none
 | n+1,f,as,st=>lcallV P (Zd P C (Z3 P C n) n f) as st
structure Inst where
 ρ:Nat->Nat
 κ:Nat->Nat
 z:Nat->Bool
def Same(R R':Inst)(b:Nat):Prop:=R'.ρ b=R.ρ b/\R'.κ b=R.κ b/\R'.z b=R.z b
def Agree(n:Nat)(R R':Inst):Prop:=∀ b,b<n->Same R R' b
theorem Same.refl(R:Inst)(b:Nat):Same R R b:=⟨rfl,rfl,rfl⟩
theorem Agree.refl(n:Nat)(R:Inst):Agree n R R:=fun b _=>Same.refl R b
theorem Same.trans{R S T:Inst}{b:Nat}(h:Same R S b)(k:Same S T b):Same R T b:=⟨k.1.trans h.1,k.2.1.trans h.2.1,k.2.2.trans h.2.2⟩
theorem Agree.trans{n m:Nat}{R S T:Inst}(h:Agree n R S)(k:Agree m S T)(hm:n<=m):Agree n R T:=fun b hb=>(h b hb).trans (k b (by omega))
def W8(f a c:Option (List Value))(k:Nat):AV:=
 match f,a with
 | some x,some y=>.v (.func (.func k) x.toArray y.toArray)
 | _,_=>.any []
def Y0(R:Inst)(k b i n:Nat)(c:Option Nat):AV:=
 if R.z b&&n==0 then .v (.slice none 0 0) else .v (.slice (some ⟨R.ρ b,i*k,none⟩) n (c.getD (R.κ b-i)))
mutual
def Z0(R:Inst):Bool->LV->AV
 | _,.int k n=>.v (.int k n)
 | _,.bool b=>.v (.bool b)
 | _,.str s=>.v (.string ⟨s.toArray⟩)
 | _,.nilp=>.v (.pointer none)
 | true,.ptr b o=>.v (.pointer (some ⟨R.ρ b,o,none⟩))
 | false,.ptr _ _=>.any []
 | true,.pel k b i o=>.v (.pointer (some ⟨R.ρ b,i*k+o,none⟩))
 | false,.pel _ _ _ _=>.any []
 | _,.irp x=>.rp (Z0 R false x)
 | _,.nils=>.v (.slice none 0 0)
 | true,.sl k b i n c=>Y0 R k b i n c
 | false,.sl _ _ _ _ _=>.any []
 | true,.asl b o n c=>.v (.slice (some ⟨R.ρ b,o,none⟩) n c)
 | false,.asl _ _ _ _=>.any []
 | _,.isl k xs=>.sl k (Z1 R false xs)
 | _,.own _ _ _=>.any []
 | _,.nilm=>.v (.map none)
 | true,.map b=>.v (.map (some (R.ρ b)))
 | false,.map _=>.any []
 | _,.omap _ _ _=>.any []
 | _,.nili=>.v .nilIface
 | l,.ifc t x=>mkIfc t (Z0 R l x)
 | _,.nilf=>.v .nilFunc
 | l,.fn f a c=>W8 (Yg (Z1 R l a)) (Yg (Z1 R l c)) none f
 | true,.yld b=>.v (.func (.yield (R.ρ b)) #[] #[])
 | false,.yld _=>.any []
 | l,.agg xs=>.agg (Z1 R l xs)
 | l,.tup xs=>.tup (Z1 R l xs)
 | _,.any=>.any []
def Z1(R:Inst):Bool->List LV->List AV
 | _,[]=>[]
 | l,x::xs=>Z0 R l x::Z1 R l xs
end
theorem Zu(R:Inst)(l:Bool):∀ xs:List LV,Z1 R l xs=xs.map (Z0 R l)
 | []=>by simp [Z1]
 | x::xs=>by simp [Z1,Zu R l xs]
def Ze(R:Inst)(e:LEnv):Env:=fun t=>Z0 R true (e.get t)
mutual
theorem inst_same(R R':Inst):∀ (l:Bool) (v:LV),(∀ b∈Z5 v,Same R R' b)->Z0 R' l v=Z0 R l v
 | _,.int _ _,_=>by simp [Z0]
 | _,.bool _,_=>by simp [Z0]
 | _,.str _,_=>by simp [Z0]
 | _,.nilp,_=>by simp [Z0]
 | true,.ptr b o,h=>by have:=h b (by simp [Z5]);simp [Z0,this.1]
 | false,.ptr b o,h=>by simp [Z0]
 | true,.pel k b i o,h=>by have:=h b (by simp [Z5]);simp [Z0,this.1]
 | false,.pel k b i o,h=>by simp [Z0]
 | _,.irp x,_=>by simp only [Z0];rw [Wm R R' x]
 | _,.nils,_=>by simp [Z0]
 | true,.sl k b i n c,h=>by have:=h b (by simp [Z5]);simp [Z0,Y0,this.1,this.2.1,this.2.2]
 | false,.sl k b i n c,h=>by simp [Z0]
 | true,.asl b o n c,h=>by have:=h b (by simp [Z5]);simp [Z0,this.1]
 | false,.asl b o n c,h=>by simp [Z0]
 | _,.isl k xs,_=>by simp only [Z0];rw [Ye R R' xs]
 | _,.own _ _ _,_=>by simp [Z0]
 | _,.nilm,_=>by simp [Z0]
 | true,.map b,h=>by have:=h b (by simp [Z5]);simp [Z0,this.1]
 | false,.map b,h=>by simp [Z0]
 | _,.omap _ _ _,_=>by simp [Z0]
 | _,.nili,_=>by simp [Z0]
 | l,.ifc t x,h=>by simp only [Z0];rw [inst_same R R' l x (by simpa [Z5] using h)]
 | _,.nilf,_=>by simp [Z0]
 | l,.fn f a c,h=>by
  simp only [Z0];rw [V9 R R' l a (fun b hb=>h b (by simp [Z5,hb])),V9 R R' l c (fun b hb=>h b (by simp [Z5,hb]))]
 | true,.yld b,h=>by have:=h b (by simp [Z5]);simp [Z0,this.1]
 | false,.yld b,h=>by simp [Z0]
 | l,.agg xs,h=>by simp only [Z0];rw [V9 R R' l xs (by simpa [Z5] using h)]
 | l,.tup xs,h=>by simp only [Z0];rw [V9 R R' l xs (by simpa [Z5] using h)]
 | _,.any,_=>by simp [Z0]
theorem V9(R R':Inst):∀ (l:Bool) (xs:List LV),(∀ b∈Z9 xs,Same R R' b)->Z1 R' l xs=Z1 R l xs
 | _,[],_=>by simp [Z1]
 | l,x::xs,h=>by
  simp only [Z1];rw [inst_same R R' l x (fun b hb=>h b (by simp [Z9,hb])),V9 R R' l xs (fun b hb=>h b (by simp [Z9,hb]))]
theorem Wm(R R':Inst):∀ (v:LV),Z0 R' false v=Z0 R false v
 | .int _ _=>by simp [Z0]
 | .bool _=>by simp [Z0]
 | .str _=>by simp [Z0]
 | .nilp=>by simp [Z0]
 | .ptr b o=>by simp [Z0]
 | .pel k b i o=>by simp [Z0]
 | .irp x=>by simp only [Z0];rw [Wm R R' x]
 | .nils=>by simp [Z0]
 | .sl k b i n c=>by simp [Z0]
 | .asl b o n c=>by simp [Z0]
 | .isl k xs=>by simp only [Z0];rw [Ye R R' xs]
 | .own _ _ _=>by simp [Z0]
 | .nilm=>by simp [Z0]
 | .map b=>by simp [Z0]
 | .omap _ _ _=>by simp [Z0]
 | .nili=>by simp [Z0]
 | .ifc t x=>by simp only [Z0];rw [Wm R R' x]
 | .nilf=>by simp [Z0]
 | .fn f a c=>by simp only [Z0];rw [Ye R R' a,Ye R R' c]
 | .yld b=>by simp [Z0]
 | .agg xs=>by simp only [Z0];rw [Ye R R' xs]
 | .tup xs=>by simp only [Z0];rw [Ye R R' xs]
 | .any=>by simp [Z0]
theorem Ye(R R':Inst):∀ (xs:List LV),Z1 R' false xs=Z1 R false xs
 | []=>by simp [Z1]
 | x::xs=>by simp only [Z1];rw [Wm R R' x,Ye R R' xs]
end
def Wk(u v:AV):Prop:=∀ I x,RV I x u->RV I x v
theorem Wk.refl(u:AV):Wk u u:=fun _ _ h=>h
theorem Wk.trans{u v w:AV}(h:Wk u v)(k:Wk v w):Wk u w:=fun I x r=>k I x (h I x r)
theorem Wk.any(u:AV)(ds:List Nat):Wk u (.any ds):=fun _ x _=>.any x ds
inductive WkL:List AV->List AV->Prop where
 | nil:WkL [] []
 | cons {u v:AV} {us vs:List AV} (h:Wk u v) (k:WkL us vs):WkL (u::us) (v::vs)
theorem WkL.refl:∀ us,WkL us us
 | []=>.nil
 | u::us=>.cons (Wk.refl u) (WkL.refl us)
theorem WkL.length{us vs:List AV}(h:WkL us vs):us.length=vs.length:=by
 induction h with
 | nil=>rfl
 | cons h k ih=>simp [ih]
theorem WkL.get{us vs:List AV}(h:WkL us vs):∀ (j:Nat) (v:AV),vs[j]? = some v->∃ u,us[j]? = some u/\Wk u v:=by
 induction h with
 | nil=>intro j v hv;simp at hv
 | cons h k ih =>
  intro j v hv
  cases j with
  | zero=>simp at hv;subst hv;exact ⟨_,rfl,h⟩
  | succ j=>exact ih j v (by simpa using hv)
theorem WkL.append{us vs us' vs':List AV}(h:WkL us vs)(k:WkL us' vs'):WkL (us++us') (vs++vs'):=by
 induction h with
 | nil=>exact k
 | cons h _ ih=>exact .cons h ih
theorem WkL.of{α:Type}(f g:α->AV):∀ (l:List α),(∀ x∈l,Wk (f x) (g x))->WkL (l.map f) (l.map g)
 | [],_=>.nil
 | x::l,h=>.cons (h x List.mem_cons_self) (WkL.of f g l fun y hy=>h y (List.mem_cons_of_mem _ hy))
theorem Wk.agg{us vs:List AV}(h:WkL us vs):Wk (.agg us) (.agg vs):=fun I x r=>by
 cases r with
 | agg cs _ hl hr =>
  exact .agg cs vs (by rw [hl,h.length]) fun j v hv=>by
   obtain ⟨u,hu,hw⟩:=h.get j v hv;exact hw _ _ (hr j u hu)
theorem Wk.tup{us vs:List AV}(h:WkL us vs):Wk (.tup us) (.tup vs):=fun I x r=>by
 cases r with
 | tup cs _ hl hr =>
  exact .tup cs vs (by rw [hl,h.length]) fun j v hv=>by
   obtain ⟨u,hu,hw⟩:=h.get j v hv;exact hw _ _ (hr j u hu)
theorem Wk.mkIfc{u v:AV}(t:TypeId)(h:Wk u v):Wk (mkIfc t u) (mkIfc t v):=fun I x r=>by
 have key:∃ y,x=.iface t y/\RV I y u:=by
  cases u <;> simp only [Eng.mkIfc] at r
  ·obtain rfl:=r.of_v;exact ⟨_,rfl,.v _⟩
  all_goals (cases r with | ifc _ y _ hr=>exact ⟨y,rfl,hr⟩)
 obtain ⟨y,rfl,hy⟩:=key;exact RV.mkIfc t (h I y hy)
inductive CWk:AV->AV->Prop where
 | agg {us vs:List AV} (h:WkL us vs):CWk (.agg us) (.agg vs)
 | one {u v:AV} (hu:u.isAgg=false) (hv:v.isAgg=false) (h:Wk u v):CWk u v
theorem CWk.cells{u v:AV}(h:CWk u v):WkL (cellsOf u) (cellsOf v):=by
 cases h with
 | agg h=>exact h
 | one hu hv h=>rw [cellsOf_one hu,cellsOf_one hv];exact .cons h .nil
theorem CWk.wk{u v:AV}(h:CWk u v):Wk u v:=by
 cases h with
 | agg h=>exact Wk.agg h
 | one _ _ h=>exact h
theorem CWk.refl(u:AV):CWk u u:=by
 cases u <;> first | exact .agg (WkL.refl _) | exact .one rfl rfl (Wk.refl _)
inductive CWkL:List AV->List AV->Prop where
 | nil:CWkL [] []
 | cons {u v:AV} {us vs:List AV} (h:CWk u v) (k:CWkL us vs):CWkL (u::us) (v::vs)
theorem CWkL.of{α:Type}(f g:α->AV):∀ (l:List α),(∀ x∈l,CWk (f x) (g x))->CWkL (l.map f) (l.map g)
 | [],_=>.nil
 | x::l,h=>.cons (h x List.mem_cons_self) (CWkL.of f g l fun y hy=>h y (List.mem_cons_of_mem _ hy))
theorem CWkL.flat{us vs:List AV}(h:CWkL us vs):WkL (us.flatMap cellsOf) (vs.flatMap cellsOf):=by
 induction h with
 | nil=>exact .nil
 | cons h _ ih=>simp only [List.flatMap_cons];exact h.cells.append ih
theorem CWkL.length{us vs:List AV}(h:CWkL us vs):us.length=vs.length:=by
 induction h with
 | nil=>rfl
 | cons h k ih=>simp [ih]
theorem CWkL.get{us vs:List AV}(h:CWkL us vs):∀ (j:Nat) (v:AV),vs[j]? = some v->∃ u,us[j]? = some u/\CWk u v:=by
 induction h with
 | nil=>intro j v hv;simp at hv
 | cons h k ih =>
  intro j v hv
  cases j with
  | zero=>simp at hv;subst hv;exact ⟨_,rfl,h⟩
  | succ j=>exact ih j v (by simpa using hv)
theorem Wk.sl{k:Nat}{us vs:List AV}(h:CWkL us vs):Wk (.sl k us) (.sl k vs):=fun I x r=>by
 cases r with
 | sl a n c _ _ f hn hc hb hl ha hm hr =>
  refine .sl a n c k vs f (by rw [hn,h.length]) hc hb (fun i v hv=>?_) (fun hne=>ha fun e=>hne (by subst e;cases h;rfl)) (fun i v j y ad hv hy had=>?_) (fun i v j y hv hy=>?_)
  ·obtain ⟨u,hu,hw⟩:=h.get i v hv
   rw [<- hw.cells.length];exact hl i u hu
  ·obtain ⟨u,hu,hw⟩:=h.get i v hv
   obtain ⟨y',hy',_⟩:=hw.cells.get j y hy;exact hm i u j y' ad hu hy' had
  ·obtain ⟨u,hu,hw⟩:=h.get i v hv
   obtain ⟨y',hy',hw'⟩:=hw.cells.get j y hy;exact hw' _ _ (hr i u j y' hu hy')
theorem optVals_isAgg(f a c:Option (List Value))(k:Nat):(W8 f a c k).isAgg=false:=by
 unfold W8;split <;> rfl
theorem slInst_isAgg(R:Inst)(k b i n:Nat)(c:Option Nat):(Y0 R k b i n c).isAgg=false:=by
 unfold Y0;split <;> rfl
theorem mkIfc_isAgg(t:TypeId)(x:AV):(mkIfc t x).isAgg=false:=by cases x <;> rfl
theorem V8(R:Inst)(l:Bool)(v:LV):(Z0 R l v).isAgg=v.isAgg:=by
 cases v <;> cases l <;> simp only [Z0,LV.isAgg,optVals_isAgg,slInst_isAgg,mkIfc_isAgg] <;> rfl
theorem Zw(R:Inst)(l:Bool)(v:LV):cellsOf (Z0 R l v)=Z1 R l (Z4 v):=by
 by_cases h:v.isAgg=true
 ·cases v <;> simp [LV.isAgg] at h
  simp [Z0,cellsOf,Z4]
 ·have h1:(Z0 R l v).isAgg=false:=by rw [V8];simpa using h
  rw [cellsOf_one h1]
  cases v <;> simp_all [LV.isAgg,Z4,Z1]
mutual
theorem wk_dead(R:Inst):∀ (v:LV),Wk (Z0 R true v) (Z0 R false v)
 | .int _ _=>by simp only [Z0];exact Wk.refl _
 | .bool _=>by simp only [Z0];exact Wk.refl _
 | .str _=>by simp only [Z0];exact Wk.refl _
 | .nilp=>by simp only [Z0];exact Wk.refl _
 | .ptr b o=>by simp only [Z0];exact Wk.any _ _
 | .pel k b i o=>by simp only [Z0];exact Wk.any _ _
 | .irp x=>by simp only [Z0];exact Wk.refl _
 | .nils=>by simp only [Z0];exact Wk.refl _
 | .sl k b i n c=>by simp only [Z0];exact Wk.any _ _
 | .asl b o n c=>by simp only [Z0];exact Wk.any _ _
 | .isl k xs=>by simp only [Z0];exact Wk.refl _
 | .own _ _ _=>by simp only [Z0];exact Wk.refl _
 | .nilm=>by simp only [Z0];exact Wk.refl _
 | .map b=>by simp only [Z0];exact Wk.any _ _
 | .omap _ _ _=>by simp only [Z0];exact Wk.refl _
 | .nili=>by simp only [Z0];exact Wk.refl _
 | .ifc t x=>by simp only [Z0];exact Wk.mkIfc t (wk_dead R x)
 | .nilf=>by simp only [Z0];exact Wk.refl _
 | .fn f a c=>by
  simp only [Z0]
  cases h1:Yg (Z1 R false a) with
  | none=>exact Wk.any _ _
  | some x =>
   cases h2:Yg (Z1 R false c) with
   | none=>exact Wk.any _ _
   | some y=>rw [flats_dead R a x h1,flats_dead R c y h2];exact Wk.refl _
 | .yld b=>by simp only [Z0];exact Wk.any _ _
 | .agg xs=>by simp only [Z0];exact Wk.agg (wk_deadL R xs)
 | .tup xs=>by simp only [Z0];exact Wk.tup (wk_deadL R xs)
 | .any=>by simp only [Z0];exact Wk.refl _
theorem wk_deadL(R:Inst):∀ (xs:List LV),WkL (Z1 R true xs) (Z1 R false xs)
 | []=>by simp only [Z1];exact .nil
 | x::xs=>by simp only [Z1];exact .cons (wk_dead R x) (wk_deadL R xs)
theorem flat_dead(R:Inst):∀ (v:LV) (x:Value),Z0 R false v=.v x->Z0 R true v=.v x
 | .int _ _,x,h=>by simpa [Z0] using h
 | .bool _,x,h=>by simpa [Z0] using h
 | .str _,x,h=>by simpa [Z0] using h
 | .nilp,x,h=>by simpa [Z0] using h
 | .ptr b o,x,h=>by simp [Z0] at h
 | .pel k b i o,x,h=>by simp [Z0] at h
 | .irp y,x,h=>by simp [Z0] at h
 | .nils,x,h=>by simpa [Z0] using h
 | .sl k b i n c,x,h=>by simp [Z0] at h
 | .asl b o n c,x,h=>by simp [Z0] at h
 | .isl k xs,x,h=>by simp [Z0] at h
 | .own _ _ _,x,h=>by simp [Z0] at h
 | .nilm,x,h=>by simpa [Z0] using h
 | .map b,x,h=>by simp [Z0] at h
 | .omap _ _ _,x,h=>by simp [Z0] at h
 | .nili,x,h=>by simpa [Z0] using h
 | .ifc t y,x,h=>by
  simp only [Z0] at h ⊢
  cases hy:Z0 R false y with
  | v z=>rw [flat_dead R y z hy];rw [hy] at h;exact h
  | _=>rw [hy] at h;simp [Eng.mkIfc] at h
 | .nilf,x,h=>by simpa [Z0] using h
 | .fn f a c,x,h=>by
  simp only [Z0] at h ⊢
  cases h1:Yg (Z1 R false a) with
  | none=>rw [h1] at h;simp [W8] at h
  | some p =>
   cases h2:Yg (Z1 R false c) with
   | none=>rw [h1,h2] at h;simp [W8] at h
   | some q=>rw [flats_dead R a p h1,flats_dead R c q h2];rw [h1,h2] at h;exact h
 | .yld b,x,h=>by simp [Z0] at h
 | .agg xs,x,h=>by simp [Z0] at h
 | .tup xs,x,h=>by simp [Z0] at h
 | .any,x,h=>by simp [Z0] at h
theorem flats_dead(R:Inst):∀ (xs:List LV) (ys:List Value),Yg (Z1 R false xs)=some ys->Yg (Z1 R true xs)=some ys
 | [],ys,h=>by simpa [Z1] using h
 | x::xs,ys,h=>by
  simp only [Z1] at h ⊢
  cases hx:Z0 R false x with
  | v z =>
   rw [flat_dead R x z hx];rw [hx] at h;simp only [Yg] at h ⊢
   cases hq:Yg (Z1 R false xs) with
   | none=>rw [hq] at h;simp at h
   | some q=>rw [flats_dead R xs q hq];rw [hq] at h;exact h
  | _=>rw [hx] at h;simp [Yg] at h
end
theorem cwk_dead(R:Inst)(v:LV):CWk (Z0 R true v) (Z0 R false v):=by
 by_cases h:v.isAgg=true
 ·cases v <;> simp [LV.isAgg] at h
  simp only [Z0];exact .agg (wk_deadL R _)
 ·exact .one (by rw [V8];simpa using h) (by rw [V8];simpa using h) (wk_dead R v)
mutual
theorem inst_seal(R:Inst)(l:Bool):∀ (v:LV),Z0 R l (Zs v)=Z0 R false v
 | .int _ _=>by simp [Z0,Zs]
 | .bool _=>by simp [Z0,Zs]
 | .str _=>by simp [Z0,Zs]
 | .nilp=>by simp [Z0,Zs]
 | .ptr b o=>by simp [Z0,Zs]
 | .pel k b i o=>by simp [Z0,Zs]
 | .irp x=>by simp [Z0,Zs]
 | .nils=>by simp [Z0,Zs]
 | .sl k b i n c=>by simp [Z0,Zs]
 | .asl b o n c=>by simp [Z0,Zs]
 | .isl k xs=>by simp [Z0,Zs]
 | .own _ _ _=>by simp [Z0,Zs]
 | .nilm=>by simp [Z0,Zs]
 | .map b=>by simp [Z0,Zs]
 | .omap _ _ _=>by simp [Z0,Zs]
 | .nili=>by simp [Z0,Zs]
 | .ifc t x=>by simp only [Z0,Zs];rw [inst_seal R l x]
 | .nilf=>by simp [Z0,Zs]
 | .fn f a c=>by simp only [Z0,Zs];rw [Xu R l a,Xu R l c]
 | .yld b=>by simp [Z0,Zs]
 | .agg xs=>by simp only [Z0,Zs];rw [Xu R l xs]
 | .tup xs=>by simp only [Z0,Zs];rw [Xu R l xs]
 | .any=>by simp [Z0,Zs]
theorem Xu(R:Inst)(l:Bool):∀ (xs:List LV),Z1 R l (Zi xs)=Z1 R false xs
 | []=>by simp [Z1,Zi]
 | x::xs=>by simp only [Z1,Zi];rw [inst_seal R l x,Xu R l xs]
theorem refs_seal:∀ (v:LV),Z5 (Zs v)=[]
 | .int _ _=>by simp [Z5,Zs]
 | .bool _=>by simp [Z5,Zs]
 | .str _=>by simp [Z5,Zs]
 | .nilp=>by simp [Z5,Zs]
 | .ptr b o=>by simp [Z5,Zs]
 | .pel k b i o=>by simp [Z5,Zs]
 | .irp x=>by simp [Z5,Zs]
 | .nils=>by simp [Z5,Zs]
 | .sl k b i n c=>by simp [Z5,Zs]
 | .asl b o n c=>by simp [Z5,Zs]
 | .isl k xs=>by simp [Z5,Zs]
 | .own _ _ _=>by simp [Z5,Zs]
 | .nilm=>by simp [Z5,Zs]
 | .map b=>by simp [Z5,Zs]
 | .omap _ _ _=>by simp [Z5,Zs]
 | .nili=>by simp [Z5,Zs]
 | .ifc t x=>by simp only [Z5,Zs];rw [refs_seal x]
 | .nilf=>by simp [Z5,Zs]
 | .fn f a c=>by simp only [Z5,Zs];rw [Xr a,Xr c];rfl
 | .yld b=>by simp [Z5,Zs]
 | .agg xs=>by simp only [Z5,Zs];rw [Xr xs]
 | .tup xs=>by simp only [Z5,Zs];rw [Xr xs]
 | .any=>by simp [Z5,Zs]
theorem Xr:∀ (xs:List LV),Z9 (Zi xs)=[]
 | []=>by simp [Z9,Zi]
 | x::xs=>by simp only [Z9,Zi];rw [refs_seal x,Xr xs];rfl
end
def rlv(P:Program)(e:TypeId):Bool:=!Y4 P e
structure RowOk (f:Bool) (k cap:Nat) (xs:List LV):Prop where
 cells:∀ x∈xs,(Z4 x).length=k
 one:f=true->∀ x∈xs,(Z4 x).all LV.oneD=true
 le:xs.length<=cap
 cap:cap<=maxLen
 big:xs.length<=big
def W9(R:Inst)(es:List (Int × LV)):List (Int × AV):=es.map fun p=>(p.1,Z0 R false p.2)
structure MapOk (R:Inst) (es:List (Int × LV)) (es':List (Int × AV)):Prop where
 perm:es'.Perm (W9 R es)
 nd:(es'.map (·.1)).Nodup
inductive CellE (P:Program) (R:Inst):LV->AV->Hp->Prop where
 | ownNil (e k:Nat):CellE P R (.own e k []) (.v (.slice none 0 0)) []
 | own (e k:Nat) (xs:List LV) (q cap:Nat) (hf:Y4 P e=true∨xs=[]) (h:RowOk (Y4 P e) k cap xs) :
  CellE P R (.own e k xs) (.v (.slice (some ⟨q,0,none⟩) xs.length cap)) [(q,.cells e ((Z1 R false xs).flatMap cellsOf) (cap*k))]
 | omap (k:IntKind) (ks:List Int) (vs:List LV) (q:Nat) (es':List (Int × AV)) (h:MapOk R (ks.zip vs) es') :
  CellE P R (.omap k ks vs) (.v (.map (some q))) [(q,.imap k es')]
 | other (c:LV) (h:c.plain=true):CellE P R c (Z0 R true c) []
inductive CellsE (P:Program) (R:Inst):List LV->List AV->Hp->Prop where
 | nil:CellsE P R [] [] []
 | cons {c:LV} {u:AV} {t:Hp} {cs:List LV} {us:List AV} {s:Hp} (h:CellE P R c u t) (k:CellsE P R cs us s):CellsE P R (c::cs) (u::us) (t++s)
inductive ObjE (P:Program) (R:Inst) (b:Nat):LObj->Hp->Prop where
 | box (e:Nat) (cs:List LV) (us:List AV) (t:Hp) (h:CellsE P R cs us t):ObjE P R b (.box e cs) ((R.ρ b,.cells e us us.length)::t)
 | rowNil (e k:Nat) (hz:R.z b=true):ObjE P R b (.row e k []) []
 | row (e k:Nat) (xs:List LV) (hz:R.z b=false) (ok:RowOk (Y4 P e) k (R.κ b) xs) :
  ObjE P R b (.row e k xs) [(R.ρ b,.cells e ((Z1 R (rlv P e) xs).flatMap cellsOf) (R.κ b*k))]
 | map (k:IntKind) (es:List (Int × LV)) (es':List (Int × AV)) (h:MapOk R es es'):ObjE P R b (.map k es) [(R.ρ b,.imap k es')]
inductive Ents (P:Program) (R:Inst):List (Nat × LObj)->Hp->Prop where
 | nil:Ents P R [] []
 | cons {b:Nat} {o:LObj} {t:Hp} {l:List (Nat × LObj)} {s:Hp} (h:ObjE P R b o t) (k:Ents P R l s):Ents P R ((b,o)::l) (t++s)
structure SRel (P:Program) (R:Inst) (st:St) (s:Hp):Prop where
 ents:Ents P R st.objs s
 nd:s.keys.Nodup
 ok:(st.objs.map (·.1)).Nodup
 lt:∀ p∈st.objs,p.1<st.next
 ws:∀ p∈st.objs,∀ r∈Y1 P p.2,r<st.next
def EWS(n:Nat)(e:LEnv):Prop:=∀ t,∀ b∈Z5 (e.get t),b<n
theorem hpk_append(s t:Hp):Hp.keys (s++t)=s.keys++t.keys:=by simp [Hp.keys]
theorem Wi{s t:Hp}(h:s.Perm t):s.keys.Perm t.keys:=h.map _
theorem Ents.focus{P:Program}{R:Inst}{b:Nat}{o:LObj}:∀ {l:List (Nat × LObj)} {s:Hp},Ents P R l s->Yh l b=some o ->
  ∃ t1 t2,ObjE P R b o t1/\Ents P R (Yo l b) t2/\s.Perm (t1++t2)/\(∀ o' t',ObjE P R b o' t'->∃ s',Ents P R (oset l b o') s'/\s'.Perm (t'++t2)):=by
 intro l s h
 induction h with
 | nil=>intro hl;simp [Yh] at hl
 | cons h k ih =>
  rename_i b' o' t l s;intro hl;unfold Yh at hl
  by_cases hb:b'=b
  ·subst hb
   rw [if_pos rfl] at hl;injection hl with hl;subst hl
   refine ⟨t,s,h,by simp only [Yo,if_true];exact k,.refl _,fun o'' t' ho=>⟨t'++s,by simp only [oset,if_true];exact .cons ho k,.refl _⟩⟩
  ·rw [if_neg hb] at hl
   obtain ⟨t1,t2,h1,h2,h3,h4⟩:=ih hl;refine ⟨t1,t++t2,h1,by simp only [Yo,if_neg hb];exact .cons h h2,?_,fun o'' t' ho=>?_⟩
   ·exact ((List.Perm.append_left t h3).trans (by
     rw [<- List.append_assoc,<- List.append_assoc];exact List.Perm.append_right t2 List.perm_append_comm))
   ·obtain ⟨s',g1,g2⟩:=h4 o'' t' ho
    refine ⟨t++s',by simp only [oset,if_neg hb];exact .cons h g1,?_⟩
    exact ((List.Perm.append_left t g2).trans (by
     rw [<- List.append_assoc,<- List.append_assoc];exact List.Perm.append_right t2 List.perm_append_comm))
inductive MWk:List (Int × AV)->List (Int × AV)->Prop where
 | nil:MWk [] []
 | cons (n:Int) {u v:AV} {us vs:List (Int × AV)} (h:Wk u v) (k:MWk us vs):MWk ((n,u)::us) ((n,v)::vs)
theorem MWk.trans{us vs:List (Int × AV)}(h:MWk us vs):∀ {ws:List (Int × AV)},MWk vs ws->MWk us ws:=by
 induction h with
 | nil=>intro ws k;exact k
 | cons n h _ ih =>
  intro ws k
  cases k with
  | cons _ h' k'=>exact .cons n (h.trans h') (ih k')
theorem MWk.length{us vs:List (Int × AV)}(h:MWk us vs):us.length=vs.length:=by
 induction h with
 | nil=>rfl
 | cons _ h k ih=>simp [ih]
theorem MWk.get{us vs:List (Int × AV)}(h:MWk us vs):∀ (j:Nat) (v:Int × AV),vs[j]? = some v->∃ u,us[j]? = some u/\u.1=v.1/\Wk u.2 v.2:=by
 induction h with
 | nil=>intro j v hv;simp at hv
 | cons n h k ih =>
  intro j v hv
  cases j with
  | zero=>simp at hv;subst hv;exact ⟨_,rfl,rfl,h⟩
  | succ j=>exact ih j v (by simpa using hv)
inductive OWk:AObj->AObj->Prop where
 | refl (o:AObj):OWk o o
 | imap (k:IntKind) {us vs:List (Int × AV)} (h:MWk us vs):OWk (.imap k us) (.imap k vs)
 | cells (e:TypeId) {us vs:List AV} (n:Nat) (h:WkL us vs):OWk (.cells e us n) (.cells e vs n)
structure HpWk (s s':Hp):Prop where
 mem:∀ p,p∈s'->∃ o,(p.1,o)∈s/\OWk o p.2
 nd:s.keys.Nodup->s'.keys.Nodup
theorem WkL.trans{us vs:List AV}(h:WkL us vs):∀ {ws:List AV},WkL vs ws->WkL us ws:=by
 induction h with
 | nil=>intro ws k;exact k
 | cons h _ ih =>
  intro ws k
  cases k with
  | cons h' k'=>exact .cons (h.trans h') (ih k')
theorem HpWk.refl(s:Hp):HpWk s s:=⟨fun p hp=>⟨p.2,hp,.refl _⟩,id⟩
theorem OWk.trans{a b c:AObj}(h:OWk a b)(k:OWk b c):OWk a c:=by
 cases h with
 | refl=>exact k
 | imap k' h =>
  cases k with
  | refl=>exact .imap k' h
  | imap _ k=>exact .imap _ (h.trans k)
 | cells e n h =>
  cases k with
  | refl=>exact .cells e n h
  | cells e' n' k =>
   exact .cells e n (h.trans k)
theorem HpWk.trans{a b c:Hp}(h:HpWk a b)(k:HpWk b c):HpWk a c:=by
 refine ⟨fun p hp=>?_,fun hn=>k.nd (h.nd hn)⟩
 obtain ⟨o,h1,h2⟩:=k.mem p hp;obtain ⟨o',h3,h4⟩:=h.mem _ h1;exact ⟨o',h3,h4.trans h2⟩
theorem HpWk.perm{s t:Hp}(h:s.Perm t):HpWk s t:=⟨fun p hp=>⟨p.2,h.mem_iff.2 hp,.refl _⟩,fun hn=>(Wi h).nodup_iff.1 hn⟩
theorem HpWk.sub{s t:Hp}(h:t.Sublist s):HpWk s t:=⟨fun p hp=>⟨p.2,h.subset hp,.refl _⟩,fun hn=>hn.sublist (h.map _)⟩
theorem HpWk.keys{s t:Hp}(h:HpWk s t):∀ b,b∈t.keys->b∈s.keys:=fun b hb=>by
 obtain ⟨p,hp,rfl⟩:=List.mem_map.1 hb;obtain ⟨o,ho,_⟩:=h.mem p hp;exact List.mem_map.2 ⟨_,ho,rfl⟩
theorem OWk.rel{I:Imm}{w:World}{b:Nat}{o o':AObj}(h:OWk o o')(hr:ObjRel I w b o):ObjRel I w b o':=by
 cases h with
 | refl=>exact hr
 | imap k h =>
  obtain ⟨c,cl,hc⟩:=hr;refine ⟨c,cl,hc.block,by rw [hc.full,h.length],fun j v hv=>?_,hc.apart⟩
  obtain ⟨u,hu,h1,hw⟩:=h.get j v hv;obtain ⟨m,g1,g2,g3,g4⟩:=hc.entry j u hu;exact ⟨m,g1,by rw [g2,h1],hw _ _ g3,g4⟩
 | cells e n h =>
  obtain ⟨c,hc⟩:=hr;refine ⟨c,hc.block,hc.full,by rw [<- h.length];exact hc.le,fun j v hv=>?_⟩
  obtain ⟨u,hu,hw⟩:=h.get j v hv;obtain ⟨x,h1,h2⟩:=hc.cell j u hu;exact ⟨x,h1,hw _ _ h2⟩
theorem Rel.wk{I:Imm}{s s':Hp}{w:World}(h:Rel I s w)(k:HpWk s s'):Rel I s' w:=by
 refine ⟨h.imm,fun b o hb=>?_,fun b hb=>h.free b (k.keys b hb),k.nd h.nodup,h.gnd⟩
 obtain ⟨o',h1,h2⟩:=k.mem _ hb;exact h2.rel (h.obj b o' h1)
def EWk(e e':Env):Prop:=∀ t,Wk (e t) (e' t)
theorem EWk.refl(e:Env):EWk e e:=fun t=>Wk.refl _
theorem EnvRel.wk{I:Imm}{n:Fr}{a:Act}{e e':Env}(h:EnvRel I n a e)(k:EWk e e'):EnvRel I n a e':=⟨h.size,h.defers,fun t=>k t _ _ (h.rv t)⟩
theorem Ext.wk{I J:Imm}{s s' t:Hp}{w v:World}(h:Ext I s' w J t v)(k:HpWk s s'):Ext I s w J t v:=h.sup fun b hb=>k.keys b hb
theorem Ext.wk'{I J:Imm}{s t t':Hp}{w v:World}(h:Ext I s w J t v)(k:HpWk t t'):Ext I s w J t' v:=
 ⟨h.os,h.tape,h.output,h.size,h.frame,h.imm,fun b hb=>h.own b (k.keys b hb),h.newimm⟩
theorem OpsS.wk{P:Program}{ops l:List Oper}{e e':Env}{s s':Hp}{K:Env->Hp->Prop}(h:OpsS P ops l e' s' K)(he:EWk e e')(hs:HpWk s s'):OpsS P ops l e s K:=
 fun ro n I w a h1 h2 h3 Q hq=>h ro n I w a (EnvRel.wk h1 he) (Rel.wk h2 hs) h3 Q fun e1 t J a' w' g1 g2 g3 g4=>hq e1 t J a' w' g1 g2 (Ext.wk g3 hs) g4
theorem OpS.mono{P:Program}{o:Oper}{e:Env}{s:Hp}{K L:AV->Hp->Prop}(h:OpS P o e s K)(hk:∀ r t,K r t->L r t):OpS P o e s L:=aop_mono h hk
theorem AWm.wk{P:Program}{ro:Option Nat}{n:Nat}{c:Code}{e e':Env}{s s':Hp}{Q:AX->Env->Hp->Prop}(h:AW ro P n c e' s' Q)(he:EWk e e')(hs:HpWk s s'):AW ro P n c e s Q:=by
 unfold AW at h ⊢;intro ds I w a h1 h2 h3;exact wpIn_mono (h ds I w a (EnvRel.wk h1 he) (Rel.wk h2 hs) (h3.sub fun b hb=>hs.keys b hb)) fun x a' w' ⟨ax,e1,t,J,ds',g1,g2,g3,g4,g5,g6⟩=>⟨ax,e1,t,J,ds',g1,g2,g3,g4,Ext.wk g5 hs,g6⟩
theorem loop_bytes(bs:ByteArray):∀ (n i:Nat) (r:List UInt8),bs.size-i=n->ByteArray.toList.loop bs i r=r.reverse++bs.data.toList.drop i
 | 0,i,r,h=>by
  have hs:bs.size=bs.data.size:=rfl;unfold ByteArray.toList.loop;rw [if_neg (by omega),List.drop_of_length_le (by simp;omega)];simp
 | n+1,i,r,h=>by
  have hs:bs.size=bs.data.size:=rfl;unfold ByteArray.toList.loop;have hi:i<bs.data.toList.length:=by simp;omega
  rw [if_pos (by omega),loop_bytes bs n (i+1) _ (by omega),List.drop_eq_getElem_cons hi]
  have:bs.get! i=bs.data.toList[i]:=by
   simp only [ByteArray.get!];rw [Array.getElem!_eq_getD,Array.getD_eq_getD_getElem?];simp at hi;simp [hi]
  rw [this];simp
theorem toList_bytes(l:List UInt8):(⟨l.toArray⟩:ByteArray).toList=l:=by
 unfold ByteArray.toList;rw [loop_bytes _ _ 0 [] rfl];simp
theorem size_bytes(l:List UInt8):(⟨l.toArray⟩:ByteArray).size=l.length:=by simp [ByteArray.size]
theorem append_bytes(a b:List UInt8):(⟨a.toArray⟩:ByteArray)++⟨b.toArray⟩=⟨(a++b).toArray⟩:=by
 apply ByteArray.ext;rw [ByteArray.data_append];simp
theorem extract_bytes(a:List UInt8)(l h:Nat):(⟨a.toArray⟩:ByteArray).extract l h=⟨((a.take h).drop l).toArray⟩:=by
 apply ByteArray.ext;rw [ByteArray.data_extract];apply Array.toList_inj.1;simp [List.drop_take]
theorem ofCell_inst(R:Inst)(x:Value):Wr x=.any∨Z0 R true (Wr x)=.v x:=by
 unfold Wr
 split <;> first | exact .inl rfl | (right;simp [Z0,Eng.mkIfc,LV.isAny];done) | skip
theorem ofCells_inst(R:Inst):∀ (l:List Value),(X7 l).any LV.isAny=false->Z1 R true (X7 l)=l.map .v
 | [],_=>by simp [X7,Z1]
 | x::l,h=>by
  simp only [X7,List.any_cons,Bool.or_eq_false_iff] at h;simp only [X7,Z1,List.map_cons];rw [ofCells_inst R l h.2]
  rcases ofCell_inst R x with e | e
  ·rw [e] at h;simp [LV.isAny] at h
  ·rw [e]
theorem ofVal_inst(R:Inst)(x:Value):Ww x=.any∨Z0 R true (Ww x)=ofValue x:=by
 cases x
 case agg cs =>
  simp only [Ww]
  by_cases h:(X7 cs.toList).any LV.isAny=true
  ·rw [if_pos h];exact .inl rfl
  ·rw [if_neg h]
   right
   simp only [Z0,ofValue];rw [ofCells_inst R _ (by simpa using h)]
 case tuple cs=>left;rfl
 all_goals (simp only [Ww,ofValue];exact ofCell_inst R _)
theorem ofVal_refs(x:Value):Z5 (Ww x)=[]:=by
 have hc:∀ y,Z5 (Wr y)=[]:=fun y=>by
  unfold Wr
  split <;> simp [Z5]
 have hl:∀ l,Z9 (X7 l)=[]:=fun l=>by
  induction l with
  | nil=>simp [X7,Z9]
  | cons y l ih=>simp [X7,Z9,hc,ih]
 cases x
 case agg cs=>simp only [Ww];split <;> simp [Z5,hl]
 all_goals (simp only [Ww];exact hc _)
theorem ev_cases(R:Inst)(le:LEnv)(x:Operand):le.ev x=.any∨ev (Ze R le) x=Z0 R true (le.ev x):=by
 cases x with
 | tmp t=>right;rfl
 | const x=>exact (ofVal_inst R x).imp id fun h=>h.symm
 | global g=>left;rfl
 | func f=>right;simp [ev,LEnv.ev,Z0,Z1,W8,Yg]
theorem ev_refs{n:Nat}{le:LEnv}(h:EWS n le)(x:Operand):∀ b∈Z5 (le.ev x),b<n:=by
 cases x with
 | tmp t=>exact h t
 | const x=>intro b hb;simp only [LEnv.ev] at hb;rw [ofVal_refs] at hb;simp at hb
 | global g=>intro b hb;simp [LEnv.ev,Z5] at hb
 | func f=>intro b hb;simp [LEnv.ev,Z5,Z9] at hb
theorem ev_wk(R:Inst)(le:LEnv)(x:Operand):Wk (ev (Ze R le) x) (Z0 R true (le.ev x)):=by
 rcases ev_cases R le x with h | h
 ·rw [h];simp only [Z0];exact Wk.any _ _
 ·rw [h];exact Wk.refl _
theorem lint_sound{op:BinOp}{k:IntKind}{a b:Int}{v:LV}{K:AV->Prop}(R:Inst)(h:lint op k a b=some v)(hk:K (Z0 R true v)):aint op k a b K:=by
 cases op <;> simp only [lint] at h <;> simp only [aint]
 case quo=>split at h <;> simp_all [Z0];subst h;simpa [Z0] using hk
 case rem=>split at h <;> simp_all [Z0];subst h;simpa [Z0] using hk
 all_goals (first | (injection h with h;subst h;simpa [Z0] using hk) | simp at h)
theorem lshift_sound{op:BinOp}{k:IntKind}{a b:Int}{v:LV}{K:AV->Prop}(R:Inst)(h:lshift op k a b=some v)(hk:K (Z0 R true v)):ashift op k a b K:=by
 unfold lshift at h
 split at h
 ·simp at h
 ·rename_i hb
  split at h <;> simp at h <;> subst h <;> exact ⟨by omega,by simpa [Z0] using hk⟩
theorem Yf(t:TypeId)(x:AV):(∃ y,x=.v y/\mkIfc t x=.v (.iface t y))∨mkIfc t x=.ifc t x:=by
 cases x <;> first | exact .inl ⟨_,rfl,rfl⟩ | exact .inr rfl
theorem Yt{op:BinOp}{b:Bool}{v:LV}(h:eqOp op b=some v):(op=.eql/\v=.bool b)∨(op=.neq/\v=.bool (!b)):=by
 unfold eqOp at h
 split at h
 ·injection h with h;exact .inl ⟨rfl,h.symm⟩
 ·injection h with h;exact .inr ⟨rfl,h.symm⟩
 ·simp at h
theorem intsL_inst{k:IntKind}(R:Inst):∀ {us:List LV} {as:List Int},intsL k us=some as->intsA k (Z1 R true us)=some as
 | [],as,h=>by
  simp only [intsL] at h;simpa [Z1,intsA] using h
 | u::us,as,h=>by
  unfold intsL at h
  split at h
  ·simp at *
  ·rename_i k' a l e
   injection e with e1 e2
   subst e1;subst e2
   split at h
   ·rename_i hk
    obtain ⟨bs,hb,rfl⟩:=Option.map_eq_some_iff.1 h;simp only [Z1,Z0,intsA];rw [if_pos hk,intsL_inst R hb]
    rfl
   ·simp at h
  ·simp at h
theorem lbin_sound{P:Program}{op:BinOp}{t:TypeId}{xo yo:Operand}{x y v:LV}{K:AV->Prop}(R:Inst)(h:lbin P op t yo x y=some v)(hk:K (Z0 R true v)):Xd P op t xo yo (Z0 R true x) (Z0 R true y) K:=by
 have bv:∀ b:Bool,Z0 R true (.bool b)=.v (.bool b):=fun b=>by simp [Z0]
 unfold lbin at h
 split at h
 ·rename_i k a k' b
  simp only [Z0]
  split at h
  ·simp only [Xd];exact lshift_sound R h hk
  ·simp only [Xd];exact lshift_sound R h hk
  ·split at h
   ·rename_i hkk
    have:=lint_sound R h hk
    cases op <;> simp_all [Xd]
   ·simp at h
 ·rename_i a b
  simp only [Z0]
  split at h
  ·rename_i hb
   have hb:P.underlying t=some .bool:=by
    revert hb
    cases P.underlying t with
    | none=>simp
    | some d=>cases d <;> simp
   rcases Yt h with ⟨rfl,rfl⟩ | ⟨rfl,rfl⟩ <;> simp only [Xd] <;> exact ⟨hb,by simpa [Z0] using hk⟩
  ·simp at h
 ·rename_i a b
  simp only [Z0]
  split at h
  case h_5 =>
   split at h
   ·injection h with h;subst h
    rename_i hl;simp only [Xd,size_bytes,append_bytes];exact ⟨hl,by simpa [Z0] using hk⟩
   ·simp at h
  case h_6=>simp at h
  all_goals (injection h with h;subst h;simp only [Xd,toList_bytes];simpa [Z0] using hk)
 ·obtain ⟨b,hb,he⟩:=Option.bind_eq_some_iff.1 h
  have hy:Z0 R true .nils=.v (.slice none 0 0):=by simp [Z0]
  rw [hy];have key:anils P t (Z0 R true x)=some b/\((∃ a n c,Z0 R true x=.v (.slice a n c))∨∃ k u us,Z0 R true x=.sl k (u::us)):=by
   cases x <;> simp only [lnilS] at hb <;> try (simp at hb;done)
   ·split at hb
    ·refine ⟨by simp_all [Z0,anils],.inl ⟨none,0,0,by simp [Z0]⟩⟩
    ·simp at hb
   ·rename_i k bb i n c
    split at hb
    ·split at hb
     ·simp at hb
     ·rename_i hs hn
      have:(R.z bb&&n==0)=false:=by simp [hn]
      refine ⟨?_,.inl ⟨some ⟨R.ρ bb,i*k,none⟩,n,c.getD (R.κ bb-i),?_⟩⟩ <;> simp only [Z0,Y0,this,anils,hs] <;> simp at hb ⊢
      exact hb
    ·simp at hb
   ·rename_i k xs
    split at hb
    ·cases xs with
     | nil=>simp at hb
     | cons y ys=>exact ⟨by simp_all [Z0,Z1,anils],.inr ⟨k,Z0 R false y,Z1 R false ys,by simp [Z0,Z1]⟩⟩
    ·simp at hb
  obtain ⟨ka,⟨a,n,c,e⟩ | ⟨k,u,us,e⟩⟩:=key <;> rw [e] at ka ⊢ <;> rcases Yt he with ⟨rfl,rfl⟩ | ⟨rfl,rfl⟩ <;> simp only [Xd,ka] <;> simpa [Z0] using hk
 ·obtain ⟨b,hb,he⟩:=Option.bind_eq_some_iff.1 h
  cases x <;> simp only [lnilP] at hb <;> try (simp at hb;done)
  all_goals
   split at hb
   ·rename_i hp
    injection hb with hb;subst hb
    rcases Yt he with ⟨rfl,rfl⟩ | ⟨rfl,rfl⟩ <;> simp only [Z0,Xd] <;> exact ⟨hp,by simpa [Z0] using hk⟩
   ·simp at hb
 ·obtain ⟨b,hb,he⟩:=Option.bind_eq_some_iff.1 h
  cases x <;> simp only [lnilM] at hb <;> try (simp at hb;done)
  all_goals
   split at hb
   ·rename_i hp
    obtain ⟨mk,me,hu⟩:=isMapT_eq hp;injection hb with hb;subst hb
    rcases Yt he with ⟨rfl,rfl⟩ | ⟨rfl,rfl⟩ <;> simp only [Z0,Xd,anilm,hu] <;> simpa [Z0] using hk
   ·simp at hb
 ·split at h
  ·rename_i hn
   obtain ⟨b,hb,he⟩:=Option.bind_eq_some_iff.1 h
   cases x <;> simp only [lnilI] at hb <;> try (simp at hb;done)
   ·split at hb
    ·rename_i hp
     injection hb with hb;subst hb
     rcases Yt he with ⟨rfl,rfl⟩ | ⟨rfl,rfl⟩ <;> simp only [Z0,Xd,anil,hp,hn,if_true] <;> simpa [Z0] using hk
    ·simp at hb
   ·split at hb
    ·rename_i hp
     injection hb with hb;subst hb
     simp only [Z0];rename_i tt xx
     rcases Yf tt (Z0 R true xx) with ⟨z,_,e⟩ | e <;> rw [e] <;>
      (rcases Yt he with ⟨rfl,rfl⟩ | ⟨rfl,rfl⟩ <;> simp only [Z0,Xd,anil,hp,hn,if_true] <;> simpa [Z0] using hk)
    ·simp at hb
  ·simp at h
 ·rename_i d y
  obtain ⟨b,hb,he⟩:=Option.bind_eq_some_iff.1 h
  cases y <;> simp only [lifeq] at hb <;> try (simp at hb;done)
  rename_i k' c
  split at hb
  ·rename_i hp
   have hy:Z0 R true (.ifc d (.int k' c))=.v (.iface d (.int k' c)):=by simp [Z0,Eng.mkIfc]
   rw [hy]
   cases x <;> simp only at hb <;> try (simp at hb;done)
   ·injection hb with hb;subst hb
    rcases Yt he with ⟨rfl,rfl⟩ | ⟨rfl,rfl⟩ <;> simp only [Z0,Xd,aifeq,hp,if_true] <;> simpa [Z0] using hk
   ·rename_i d' x'
    simp only [Z0]
    split at hb
    ·rename_i hd
     subst hd
     cases x' <;> simp only at hb <;> try (simp at hb;done)
     rename_i k a
     split at hb
     ·rename_i hc
      injection hb with hb;subst hb
      rcases Yt he with ⟨rfl,rfl⟩ | ⟨rfl,rfl⟩ <;> simp only [Z0,Eng.mkIfc,Xd,aifeq,hp,hc,if_true,and_self] <;> simpa [Z0] using hk
     ·simp at hb
    ·rename_i hd
     injection hb with hb;subst hb
     rcases Yf d' (Z0 R true x') with ⟨z,_,e⟩ | e <;> rw [e]
     ·rcases Yt he with ⟨rfl,rfl⟩ | ⟨rfl,rfl⟩
      ·cases z <;> simp only [Xd,aifeq,hp,hd,if_true,if_false,ne_eq,not_false_eq_true,and_self] <;> simpa [Z0] using hk
      ·cases z <;> simp only [Xd,aifeq,hp,hd,if_true,if_false,ne_eq,not_false_eq_true,and_self] <;> simpa [Z0] using hk
     ·rcases Yt he with ⟨rfl,rfl⟩ | ⟨rfl,rfl⟩ <;> simp only [Xd,aifeq,hp,hd,if_true,if_false,ne_eq,not_false_eq_true,and_self] <;> simpa [Z0] using hk
  ·simp at hb
 ·rename_i us vs
  obtain ⟨b,hb,he⟩:=Option.bind_eq_some_iff.1 h;have hq:aarr P t (Z1 R true us) (Z1 R true vs)=some b:=by
   unfold larr at hb;unfold aarr
   split at hb
   case h_2=>simp at hb
   rename_i n el ht
   split at hb
   case h_2=>simp at hb
   rename_i k hel
   split at hb
   case isFalse=>simp at hb
   rename_i hc;obtain ⟨g1,g2,g3,g4⟩:=hc;rw [ht];simp only [hel];rw [if_pos ⟨g1,g2,by rw [Zu,List.length_map];exact g3,by rw [Zu,List.length_map];exact g4⟩]
   split at hb
   case h_2=>simp at hb
   rename_i a c ha hc;rw [intsL_inst R ha,intsL_inst R hc];exact hb
  simp only [Z0]
  rcases Yt he with ⟨rfl,rfl⟩ | ⟨rfl,rfl⟩ <;> simp only [Xd,hq] <;> simpa [Z0] using hk
 ·simp at h
theorem lun_sound{op:UnOp}{x v:LV}{K:AV->Prop}(R:Inst)(h:lun op x=some v)(hk:K (Z0 R true v)):aun op (Z0 R true x) K:=by
 unfold lun at h
 split at h <;> (first | (injection h with h;subst h;simp only [Z0,aun];simpa [Z0] using hk) | simp at h)
theorem byteL_bytes(R:Inst):∀ {xs:List LV} {bs:List UInt8},byteL xs=some bs->∃ ns:List Int,bytesU ((Z1 R false xs).flatMap cellsOf)=some ns/\bs=ns.map fun n=>UInt8.ofNat n.toNat
 | [],bs,h=>by simp [byteL] at h;subst h;exact ⟨[],rfl,rfl⟩
 | x::l,bs,h=>by
  unfold byteL at h
  split at h
  ·rename_i he;simp at he
  ·rename_i n l' he
   obtain ⟨rfl,rfl⟩:=List.cons.inj he;obtain ⟨cs,hc,rfl⟩:=Option.map_eq_some_iff.1 h;obtain ⟨ns,h1,rfl⟩:=byteL_bytes R hc;refine ⟨n::ns,?_,rfl⟩;simp only [Z1,Z0,List.flatMap_cons,cellsOf,List.singleton_append,bytesU,h1,Option.map_some]
  ·simp at h
theorem lconv_sound{P:Program}{src dst:TypeId}{x v:LV}{s:Hp}{K:AV->Prop}(R:Inst)(h:lconv P src dst x=some v)(hk:K (Z0 R true v)):aconv P src dst (Z0 R true x) s K:=by
 unfold lconv at h;unfold aconv
 split at h
 ·rename_i k k' m hi
  split at h
  ·rename_i hs
   injection h with h;subst h
   simp only [Z0,aconvInt,hi];exact ⟨hs,by simpa [Z0] using hk⟩
  ·simp at h
 ·rename_i xs hi
  split at h
  ·rename_i el hel
   split at h
   ·rename_i hc
    obtain ⟨bs,hb,rfl⟩:=Option.map_eq_some_iff.1 h;obtain ⟨ns,h1,rfl⟩:=byteL_bytes R hb;simp only [hi,hel,Z0,srcOf,if_true,h1];exact ⟨hc.1,hc.2,hk⟩
   ·simp at h
  ·simp at h
 ·simp at h
theorem lpick_sound{t:Bool}{x y v:LV}{K:AV->Prop}(R:Inst)(h:Wa t x y=some v)(hk:K (Z0 R true v)):apick t (Z0 R true x) (Z0 R true y) K:=by
 have gen:∀ u w:AV,(if t then K u else K w)->(∀ a b,u=.v (.bool a)->w=.v (.bool b)->K (.v (.bool (if t then a else b))))->apick t u w K:=by
  intro u w h1 h2;unfold apick
  split
  ·exact h2 _ _ rfl rfl
  ·exact h1
 unfold Wa at h
 split at h
 ·injection h with h;subst h
  simp only [Z0] at hk ⊢;exact hk
 ·injection h with h;subst h
  refine gen _ _ (by cases t <;> simpa using hk) fun a b e1 e2=>?_
  cases t
  ·simp only [Bool.false_eq_true,if_false] at hk ⊢;rw [<- e2];exact hk
  ·simp only [if_true] at hk ⊢;rw [<- e1];exact hk
theorem lmm_max{x y v:LV}{K:AV->Prop}(R:Inst)(h:lmm true x y=some v)(hk:K (Z0 R true v)):amax (Z0 R true x) (Z0 R true y) K:=by
 unfold lmm at h
 split at h
 ·injection h with h;subst h;simp only [Z0,amax];simpa [Z0] using hk
 ·simp at h
theorem lmm_max3{x y z v:LV}{K:AV->Prop}(R:Inst)(h:((lmm true x y).bind fun w=>lmm true w z)=some v)(hk:K (Z0 R true v)):amax3 (Z0 R true x) (Z0 R true y) (Z0 R true z) K:=by
 obtain ⟨w,h1,h2⟩:=Option.bind_eq_some_iff.1 h;unfold lmm at h1
 split at h1
 ·injection h1 with h1
  subst h1;unfold lmm at h2
  split at h2
  ·rename_i e1
   injection e1 with e1 e2
   subst e1;subst e2;injection h2 with h2;subst h2
   simp only [Z0,amax3];simpa [Z0] using hk
  ·simp at h2
 ·simp at h1
theorem lmm_min{x y v:LV}{K:AV->Prop}(R:Inst)(h:lmm false x y=some v)(hk:K (Z0 R true v)):amin (Z0 R true x) (Z0 R true y) K:=by
 unfold lmm at h
 split at h
 ·injection h with h;subst h;simp only [Z0,amin];simpa [Z0] using hk
 ·simp at h
theorem instL_get(R:Inst)(l:Bool)(xs:List LV)(j:Nat):(Z1 R l xs)[j]? = (xs[j]?).map (Z0 R l):=by rw [Zu];simp
theorem Zj(R:Inst)(l:Bool)(xs:List LV):(Z1 R l xs).length=xs.length:=by rw [Zu];simp
theorem instL_append(R:Inst)(l:Bool)(xs ys:List LV):Z1 R l (xs++ys)=Z1 R l xs++Z1 R l ys:=by simp [Zu]
theorem instL_take(R:Inst)(l:Bool)(xs:List LV)(n:Nat):Z1 R l (xs.take n)=(Z1 R l xs).take n:=by simp [Zu,List.map_take]
theorem instL_drop(R:Inst)(l:Bool)(xs:List LV)(n:Nat):Z1 R l (xs.drop n)=(Z1 R l xs).drop n:=by simp [Zu,List.map_drop]
theorem Y7:∀ {xs:List LV} {x:LV},x∈xs->∀ b∈Z5 x,b∈Z9 xs
 | y::xs,x,h,b,hb=>by
  simp only [Z9,List.mem_append]
  rcases List.mem_cons.1 h with rfl | h
  ·exact .inl hb
  ·exact .inr (Y7 h b hb)
theorem refsL_of:∀ {xs:List LV} {b:Nat},b∈Z9 xs->∃ x∈xs,b∈Z5 x
 | y::xs,b,h=>by
  simp only [Z9,List.mem_append] at h
  rcases h with h | h
  ·exact ⟨y,List.mem_cons_self,h⟩
  ·obtain ⟨x,hx,hb⟩:=refsL_of h;exact ⟨x,List.mem_cons_of_mem _ hx,hb⟩
theorem refsL_sub{xs ys:List LV}(h:∀ x∈xs,x∈ys):∀ b∈Z9 xs,b∈Z9 ys:=fun b hb=>by
 obtain ⟨x,hx,hb⟩:=refsL_of hb;exact Y7 (h x hx) b hb
theorem refs_lcells(x:LV):∀ b∈Z9 (Z4 x),b∈Z5 x:=by
 cases x <;> simp [Z4,Z9,Z5]
theorem refs_cell{x c:LV}(h:c∈Z4 x):∀ b∈Z5 c,b∈Z5 x:=fun b hb=>refs_lcells x b (Y7 h b hb)
theorem lpart_sound{us:List LV}{off n:Nat}{ag:Bool}{v:LV}{K:AV->Prop}(R:Inst)(l:Bool)(h:lpart us off ag n=some v)(hk:K (Z0 R l v)):apart (Z1 R l us) off ag n K:=by
 unfold lpart at h
 cases ag
 ·simp only at h
  simp only [apart,instL_get,h,Option.map_some];exact hk
 ·simp only at h
  split at h
  ·rename_i hn
   injection h with h;subst h
   simp only [apart,Zj];refine ⟨hn,?_⟩;rw [<- instL_drop,<- instL_take];simpa [Z0] using hk
  ·simp at h
theorem lpart_refs{us:List LV}{off n:Nat}{ag:Bool}{v:LV}(h:lpart us off ag n=some v):∀ b∈Z5 v,b∈Z9 us:=by
 unfold lpart at h
 cases ag
 ·simp only at h
  exact Y7 (List.mem_of_getElem? h)
 ·simp only at h
  split at h
  ·injection h with h;subst h
   simp only [Z5];exact refsL_sub fun x hx=>List.mem_of_mem_drop (List.mem_of_mem_take hx)
  ·simp at h
theorem lrpart_sound{us:List LV}{off n:Nat}{ag:Bool}{v:LV}{K:AV->Prop}(R:Inst)(h:lrpart us off ag n=some v)(hk:K (Z0 R true v)):rpart (Z1 R false us) off ag n K:=by
 unfold lrpart at h
 cases ag
 ·simp only at h
  split at h
  ·rename_i u hu
   split at h
   ·simp at h
   ·rename_i hag
    injection h with h;subst h
    simp only [rpart,instL_get,hu,Option.map_some];exact ⟨by rw [V8];simpa using hag,by simpa [Z0] using hk⟩
  ·simp at h
 ·simp only at h
  split at h
  ·rename_i hn
   injection h with h;subst h
   simp only [rpart,Zj];refine ⟨hn,?_⟩;rw [<- instL_drop,<- instL_take];simpa [Z0] using hk
  ·simp at h
theorem lrpart_refs{us:List LV}{off n:Nat}{ag:Bool}{v:LV}(h:lrpart us off ag n=some v):Z5 v=[]:=by
 unfold lrpart at h
 cases ag <;> simp only at h <;> split at h <;> try (simp at h;done)
 ·split at h
  ·simp at h
  ·injection h with h;subst h;simp [Z5]
 ·injection h with h;subst h;simp [Z5]
theorem lfieldAddr_sound{P:Program}{t:TypeId}{x v:LV}{f:Nat}{K:AV->Prop}(R:Inst)(h:lfieldAddr P t x f=some v)(hk:K (Z0 R true v)):Yb P t (Z0 R true x) f K:=by
 unfold lfieldAddr at h
 split at h
 ·rename_i off b n hf
  simp only [Yb,hf]
  split at h <;> try (simp at h;done)
  ·injection h with h;subst h;simp only [Z0];simpa [Z0] using hk
  ·injection h with h;subst h;simp only [Z0];simp only [Z0,Nat.add_assoc] at hk ⊢;exact hk
  ·simp only [Z0];exact lrpart_sound R h hk
 ·simp at h
theorem lfieldAddr_refs{P:Program}{t:TypeId}{x v:LV}{f:Nat}(h:lfieldAddr P t x f=some v):∀ b∈Z5 v,b∈Z5 x:=by
 unfold lfieldAddr at h
 split at h <;> try (simp at h;done)
 split at h <;> try (simp at h;done)
 ·injection h with h;subst h;simp [Z5]
 ·injection h with h;subst h;simp [Z5]
 ·rw [lrpart_refs h];simp
theorem lfield_sound{P:Program}{t:TypeId}{x v:LV}{f:Nat}{K:AV->Prop}(R:Inst)(h:lfield P t x f=some v)(hk:K (Z0 R true v)):afield P t (Z0 R true x) f K:=by
 unfold lfield at h
 split at h
 ·rename_i off b n hf
  simp only [afield,hf]
  split at h <;> try (simp at h;done)
  simp only [Z0];exact lpart_sound R true h hk
 ·simp at h
theorem lfield_refs{P:Program}{t:TypeId}{x v:LV}{f:Nat}(h:lfield P t x f=some v):∀ b∈Z5 v,b∈Z5 x:=by
 unfold lfield at h
 split at h <;> try (simp at h;done)
 split at h <;> try (simp at h;done)
 simp only [Z5];exact lpart_refs h
theorem lindexAddr_sound{P:Program}{t:TypeId}{x i v:LV}{K:AV->Prop}(R:Inst)(h:Wf P t x i=some v)(hk:K (Z0 R true v)):aindexAddr P t (Z0 R true x) (Z0 R true i) K:=by
 unfold Wf at h
 split at h <;> try (simp at h;done)
 rename_i kk i;simp only [Z0,aindexAddr]
 split at h
 ·rename_i el hel
  simp only [hel]
  split at h <;> try (simp at h;done)
  rename_i bb k hag;simp only [hag]
  split at h <;> try (simp at h;done)
  ·rename_i k' b j n c
   split at h <;> try (simp at h;done)
   rename_i hi;injection h with h;subst h
   obtain ⟨rfl,h0,h1⟩:=hi;have hn:(R.z b&&n==0)=false:=by
    have:n≠0:=by omega
    simp [this]
   simp only [Z0,Y0,hn];refine ⟨⟨h0,h1⟩,?_⟩;simp only [Z0] at hk;rw [<- Nat.add_mul];exact hk
  ·rename_i b o n c
   split at h <;> try (simp at h;done)
   rename_i hi;injection h with h;subst h
   obtain ⟨rfl,h0,h1⟩:=hi;simp only [Z0];exact ⟨⟨h0,h1⟩,by simpa [Z0] using hk⟩
  ·rename_i k' xs
   split at h <;> try (simp at h;done)
   rename_i hi;obtain ⟨rfl,h0,h1⟩:=hi
   split at h <;> try (simp at h;done)
   rename_i y hy;injection h with h;subst h
   simp only [Z0];refine ⟨⟨h0,by rw [Zj];exact h1⟩,trivial,?_⟩
   rw [List.getD_eq_getElem?_getD,instL_get,hy];simp only [Option.map_some,Option.getD_some];simp only [Z0] at hk;exact hk
 ·rename_i hel
  simp only [hel]
  split at h <;> try (simp at h;done)
  rename_i len el harr;simp only [harr]
  split at h <;> try (simp at h;done)
  rename_i b k hag;simp only [hag]
  split at h <;> try (simp at h;done)
  ·split at h <;> try (simp at h;done)
   rename_i hi;injection h with h;subst h
   simp only [Z0];exact ⟨hi,by simpa [Z0] using hk⟩
  ·split at h <;> try (simp at h;done)
   rename_i hi;simp only [Z0];exact ⟨hi,lrpart_sound R h hk⟩
theorem lindexAddr_refs{P:Program}{t:TypeId}{x i v:LV}(h:Wf P t x i=some v):∀ b∈Z5 v,b∈Z5 x:=by
 unfold Wf at h
 split at h <;> try (simp at h;done)
 split at h
 ·split at h <;> try (simp at h;done)
  split at h <;> try (simp at h;done)
  ·split at h <;> try (simp at h;done)
   injection h with h;subst h;simp [Z5]
  ·split at h <;> try (simp at h;done)
   injection h with h;subst h;simp [Z5]
  ·split at h <;> try (simp at h;done)
   split at h <;> try (simp at h;done)
   injection h with h;subst h;simp [Z5]
 ·split at h <;> try (simp at h;done)
  split at h <;> try (simp at h;done)
  split at h <;> try (simp at h;done)
  ·split at h <;> try (simp at h;done)
   injection h with h;subst h;simp [Z5]
  ·split at h <;> try (simp at h;done)
   rw [lrpart_refs h];simp
theorem lindex_sound{P:Program}{t:TypeId}{x i v:LV}{K:AV->Prop}(R:Inst)(h:lindex P t x i=some v)(hk:K (Z0 R true v)):aindex P t (Z0 R true x) (Z0 R true i) K:=by
 unfold lindex at h
 split at h <;> try (simp at h;done)
 rename_i kk i;simp only [Z0,aindex]
 split at h <;> try (simp at h;done)
 ·rename_i s
  split at h <;> try (simp at h;done)
  rename_i hi;injection h with h;subst h
  simp only [Z0,size_bytes];refine ⟨hi.1,⟨hi.2.1,by have:=hi.2.2;simpa [ByteArray.size] using this⟩,?_⟩
  simp only [Z0] at hk;have:(s.toArray.getD i.toNat 0)=s.getD i.toNat 0:=by simp [Array.getD_eq_getD_getElem?,List.getD_eq_getElem?_getD]
  rw [this];exact hk
 ·rename_i us
  split at h <;> try (simp at h;done)
  rename_i len el harr
  split at h <;> try (simp at h;done)
  rename_i b k hag
  split at h <;> try (simp at h;done)
  rename_i hi;simp only [Z0,harr,hag];exact ⟨hi,lpart_sound R true h hk⟩
theorem lindex_refs{P:Program}{t:TypeId}{x i v:LV}(h:lindex P t x i=some v):∀ b∈Z5 v,b∈Z5 x:=by
 unfold lindex at h
 split at h <;> try (simp at h;done)
 split at h <;> try (simp at h;done)
 ·split at h <;> try (simp at h;done)
  injection h with h;subst h;simp [Z5]
 ·split at h <;> try (simp at h;done)
  split at h <;> try (simp at h;done)
  split at h <;> try (simp at h;done)
  simp only [Z5];exact lpart_refs h
theorem lextract_sound{x v:LV}{i:Nat}{K:AV->Prop}(R:Inst)(h:lextract x i=some v)(hk:K (Z0 R true v)):V5 (Z0 R true x) i K:=by
 unfold lextract at h
 split at h <;> try (simp at h;done)
 simp only [Z0,V5,instL_get,h,Option.map_some];exact hk
theorem lextract_refs{x v:LV}{i:Nat}(h:lextract x i=some v):∀ b∈Z5 v,b∈Z5 x:=by
 unfold lextract at h
 split at h <;> try (simp at h;done)
 simp only [Z5];exact Y7 (List.mem_of_getElem? h)
theorem ofCell_dead(R:Inst)(x:Value):Z0 R false (Wr x)=Z0 R true (Wr x):=by
 unfold Wr
 split <;> simp [Z0]
theorem ofCells_dead(R:Inst):∀ l,Z1 R false (X7 l)=Z1 R true (X7 l)
 | []=>by simp [X7,Z1]
 | x::l=>by simp [X7,Z1,ofCell_dead,ofCells_dead R l]
theorem ofVal_dead(R:Inst)(l:Bool)(x:Value):Z0 R l (Ww x)=Z0 R true (Ww x):=by
 cases l
 ·cases x
  case agg cs=>simp only [Ww];split <;> simp [Z0,ofCells_dead]
  all_goals (simp only [Ww];exact ofCell_dead R _)
 ·rfl
theorem zelem_eq{P:Program}{t:TypeId}{z:LV}(R:Inst)(h:zelem P t=some z):∃ zv,Xp P t=some zv/\z=Ww zv/\(∀ l,Z0 R l z=ofValue zv)/\Z5 z=[]:=by
 unfold zelem at h
 split at h
 ·rename_i zv hz
  split at h
  ·simp at h
  ·rename_i hn
   injection h with h;subst h
   refine ⟨zv,hz,rfl,fun l=>?_,ofVal_refs zv⟩
   rw [ofVal_dead]
   rcases ofVal_inst R zv with e | e
   ·rw [e] at hn;simp [LV.isAny] at hn
   ·exact e
 ·simp at h
theorem zcells_of(z:Value)(h:∀ cs,z≠.tuple cs):cellsOf (ofValue z)=Yr z:=by
 cases z <;> simp [ofValue,cellsOf,Yr,Value.cells]
 rename_i cs;exact absurd rfl (h cs)
theorem zelem_cells{P:Program}{t:TypeId}{z:LV}(R:Inst)(h:zelem P t=some z):∃ zv,Xp P t=some zv/\(∀ l,Z1 R l (Z4 z)=Yr zv)/\Z9 (Z4 z)=[]/\z=Ww zv/\zv.cells.size=(Z4 z).length:=by
 obtain ⟨zv,h1,h2,h3,h4⟩:=zelem_eq R h;have hnt:∀ cs,zv≠.tuple cs:=fun cs e=>by
  subst e;unfold zelem at h;rw [h1] at h;simp [Ww,Wr,LV.isAny] at h
 have hc:∀ l,Z1 R l (Z4 z)=Yr zv:=fun l=>by rw [<- Zw,h3 l,zcells_of zv hnt]
 refine ⟨zv,h1,hc,?_,h2,?_⟩
 ·have:=refs_lcells z
  rw [h4] at this;exact List.eq_nil_iff_forall_not_mem.2 fun b hb=>by simpa using this b hb
 ·have:=congrArg List.length (hc true)
  rw [Zj] at this;simp [Yr] at this;omega
theorem Wk.empty(a:Option Addr)(c k:Nat):Wk (.v (.slice a 0 c)) (.sl k []):=fun I x r=>by
 obtain rfl:=r.of_v;exact .sl a 0 c k [] (fun _ _=>undef) rfl (Nat.zero_le _) (Nat.zero_le _) (by simp) (by simp) (by simp) (by simp)
theorem Yy{s:Hp}(hn:s.keys.Nodup){b:Nat}{o:AObj}(h:(b,o)∈s):s.get b=some o:=by
 induction s with
 | nil=>simp at h
 | cons p s ih =>
  obtain ⟨k,o'⟩:=p
  simp only [Hp.keys,List.map_cons,List.nodup_cons] at hn;rw [Zq]
  rcases List.mem_cons.1 h with e | e
  ·injection e with e1 e2;subst e1;subst e2;rw [if_pos rfl]
  ·rw [if_neg fun e'=>hn.1 (by subst e';exact List.mem_map.2 ⟨_,e,rfl⟩)]
   exact ih hn.2 e
theorem olook_mem:∀ {l:List (Nat × LObj)} {b:Nat} {o:LObj},Yh l b=some o->(b,o)∈l
 | (k,o')::l,b,o,h=>by
  unfold Yh at h
  split at h
  ·rename_i e;injection h with h;subst h;subst e;exact List.mem_cons_self
  ·exact List.mem_cons_of_mem _ (olook_mem h)
inductive RowSt (P:Program) (R:Inst) (b e k:Nat) (xs:List LV) (s:Hp):Prop where
 | nil (hz:R.z b=true) (hx:xs=[])
 | row (hz:R.z b=false) (ok:RowOk (Y4 P e) k (R.κ b) xs) (hm:(R.ρ b,AObj.cells e ((Z1 R (rlv P e) xs).flatMap cellsOf) (R.κ b*k))∈s)
theorem SRel.row{P:Program}{R:Inst}{st:St}{s:Hp}(h:SRel P R st s){b e k:Nat}{xs:List LV}(hl:st.look b=some (.row e k xs)):RowSt P R b e k xs s:=by
 obtain ⟨t1,t2,h1,h2,h3,_⟩:=h.ents.focus hl
 cases h1 with
 | rowNil _ _ hz=>exact .nil hz rfl
 | row _ _ _ hz ok=>exact .row hz ok (h3.mem_iff.2 (by simp))
theorem SRel.box{P:Program}{R:Inst}{st:St}{s:Hp}(h:SRel P R st s){b e:Nat}{cs:List LV}(hl:st.look b=some (.box e cs)):
  ∃ us t,CellsE P R cs us t/\(R.ρ b,AObj.cells e us us.length)∈s:=by
 obtain ⟨t1,t2,h1,h2,h3,_⟩:=h.ents.focus hl
 cases h1 with
 | box _ _ us t hc=>exact ⟨us,t,hc,h3.mem_iff.2 (by simp)⟩
theorem SRel.map{P:Program}{R:Inst}{st:St}{s:Hp}(h:SRel P R st s){b:Nat}{k:IntKind}{es:List (Int × LV)}(hl:st.look b=some (.map k es)):
  ∃ es',MapOk R es es'/\(R.ρ b,AObj.imap k es')∈s:=by
 obtain ⟨t1,t2,h1,h2,h3,_⟩:=h.ents.focus hl
 cases h1 with
 | map _ _ es' hm=>exact ⟨es',hm,h3.mem_iff.2 (by simp)⟩
theorem optI_sound(R:Inst){x:Option LV}{i:Option Int}(h:optI x=some i):Wq (x.map (Z0 R true))=some i:=by
 cases x with
 | none=>simpa [optI,Wq] using h
 | some x =>
  cases x <;> simp [optI] at h
  subst h;simp [Z0,Wq]
theorem lbounds_eq{len cap:Nat}{lo hi mx:Option Int}{l h:Nat}(e:lbounds len cap lo hi mx=some (l,h)):
  ((mx.isSome=true->hi.isSome=true)/\(0<=mx.getD (cap:Int)/\mx.getD (cap:Int)<=cap)/\(0<=hi.getD (len:Int)/\hi.getD (len:Int)<=mx.getD (cap:Int))/\(0<=lo.getD 0/\lo.getD 0<=hi.getD (len:Int))) /\
   l=(lo.getD 0).toNat/\h=(hi.getD (len:Int)).toNat:=by
 unfold lbounds at e
 split at e
 ·rename_i hc
  simp at e;obtain ⟨h1,h2,h3,h4,h5,h6,h7⟩:=hc;exact ⟨⟨h7,⟨h1,h2⟩,⟨h3,h4⟩,⟨h5,h6⟩⟩,e.1.symm,e.2.symm⟩
 ·simp at e
theorem lslice_sound{P:Program}{t:TypeId}{x v:LV}{lo hi mx:Option LV}{st:St}{s:Hp}{K:AV->Prop}(R:Inst)(hs:SRel P R st s)(h:lslice P t x lo hi mx st=some v)(hk:∀ r,Wk r (Z0 R true v)->K r):aslice P t (Z0 R true x) (lo.map (Z0 R true)) (hi.map (Z0 R true)) (mx.map (Z0 R true)) K:=by
 unfold lslice at h
 split at h <;> try (simp at h;done)
 rename_i lo' hi' mx' hlo hhi hmx;simp only [aslice,optI_sound R hlo,optI_sound R hhi,optI_sound R hmx]
 split at h
 ·rename_i el hel
  simp only [hel]
  split at h <;> try (simp at h;done)
  rename_i bb k hag;simp only [hag]
  split at h <;> try (simp at h;done)
  ·
   rename_i k' xs
   split at h <;> try (simp at h;done)
   rename_i hkk;subst hkk;obtain ⟨⟨l,hh⟩,hb,e⟩:=Option.map_eq_some_iff.1 h;simp only at e;obtain ⟨⟨b1,b2,b3,b4⟩,rfl,rfl⟩:=lbounds_eq hb;simp only [Z0];refine ⟨trivial,?_⟩;rw [Zj];refine ⟨b1,b2,b3,b4,hk _ ?_⟩;subst e;simp only [Z0];rw [instL_drop,instL_take];exact Wk.refl _
  ·
   obtain ⟨⟨l,hh⟩,hb,e⟩:=Option.map_eq_some_iff.1 h;obtain ⟨⟨b1,b2,b3,b4⟩,rfl,rfl⟩:=lbounds_eq hb;simp only [Z0];refine ⟨b1,b2,b3,b4,hk _ ?_⟩;subst e;simp only [Z0];have e1:(hi'.getD ((0:Nat):Int)).toNat-(lo'.getD 0).toNat=0:=by omega
   have e2:(mx'.getD ((0:Nat):Int)).toNat-(lo'.getD 0).toNat=0:=by omega
   rw [e1,e2];exact Wk.refl _
  ·
   rename_i k' b i n c
   split at h <;> try (simp at h;done)
   rename_i hkk;obtain ⟨rfl,hcap⟩:=hkk;obtain ⟨⟨l,hh⟩,hb,e⟩:=Option.map_eq_some_iff.1 h;simp only at e;obtain ⟨⟨b1,b2,b3,b4⟩,hl,hhh⟩:=lbounds_eq hb;have hst:(R.z b=true/\n=0)∨(R.z b=false/\n<=c.getD (R.κ b-i)):=by
    unfold capOk at hcap
    split at hcap <;> try (simp at hcap;done)
    rename_i e' k'' xs hlook;simp only [Bool.and_eq_true,decide_eq_true_eq] at hcap
    cases hs.row hlook with
    | nil hz hx=>subst hx;simp at hcap;exact .inl ⟨hz,by omega⟩
    | row hz ok hm =>
     refine .inr ⟨hz,?_⟩;have:=ok.le
     cases c with
     | none=>simp only [Option.getD_none];omega
     | some m=>simpa using hcap.2
   rcases hst with ⟨hz,rfl⟩ | ⟨hz,hle⟩
   ·simp only [Z0,Y0,hz,Bool.true_and,beq_self_eq_true,if_true]
    refine ⟨b1,b2,b3,b4,hk _ ?_⟩;have e1:(hi'.getD ((0:Nat):Int)).toNat-(lo'.getD 0).toNat=0:=by omega
    have e2:(mx'.getD ((0:Nat):Int)).toNat-(lo'.getD 0).toNat=0:=by omega
    have hl0:l=0:=by omega
    have hh0:hh=0:=by omega
    subst e;simp only [hl0,hh0,if_true];rw [e1,e2];simp only [Z0,Y0,hz,Bool.true_and,beq_self_eq_true,if_true];exact Wk.refl _
   ·simp only [Z0,Y0,hz,Bool.false_and,Bool.false_eq_true,if_false]
    generalize hC:c.getD (R.κ b-i)=C at hle;have g2:0<=mx'.getD (C:Int)/\mx'.getD (C:Int)<=C:=by
     cases mx' with
     | none=>simp
     | some m=>simp at b2 ⊢;omega
    have g3:hi'.getD (n:Int)<=mx'.getD (C:Int):=by
     cases mx' with
     | none=>simp at b3 ⊢;omega
     | some m=>simpa using b3.2
    refine ⟨b1,g2,⟨b3.1,g3⟩,b4,hk _ ?_⟩;rw [<- hl,<- hhh];have hlh:l<=hh:=by omega
    have hhm:hh<=(mx'.getD (C:Int)).toNat:=by omega
    subst e
    by_cases hl0:l=0
    ·subst hl0
     simp only [if_true,Z0,Y0,hz,Bool.false_and,Bool.false_eq_true,if_false];have e1:Yv (i*k') 0 (mx'.getD (C:Int)).toNat k'=i*k':=by unfold Yv;split <;> simp
     rw [e1]
     cases mx' with
     | none =>
      simp only [Option.getD_none,hC,Int.toNat_natCast,Nat.sub_zero];exact Wk.refl _
     | some m=>simp only [Option.getD_some,Nat.sub_zero];exact Wk.refl _
    ·rw [if_neg hl0]
     by_cases hlh':l=hh
     ·subst hlh'
      rw [if_pos rfl];simp only [Z0,Z1,Nat.sub_self];exact Wk.empty _ _ _
     ·rw [if_neg hlh']
      simp only [Z0,Y0,hz,Bool.false_and,Bool.false_eq_true,if_false];have e1:Yv (i*k') l (mx'.getD (C:Int)).toNat k'=(i+l)*k':=by
       unfold Yv;rw [if_neg (by omega),Nat.add_mul]
      rw [e1]
      cases mx' with
      | none =>
       simp only [Option.getD_none,Int.toNat_natCast]
       cases c with
       | none=>simp only [Option.getD_none,Option.map_none] at hC ⊢;rw [<- hC,Nat.sub_sub];exact Wk.refl _
       | some m=>simp only [Option.getD_some,Option.map_some] at hC ⊢;rw [<- hC];exact Wk.refl _
      | some m=>simp only [Option.getD_some];exact Wk.refl _
  ·
   rename_i b o n c
   split at h <;> try (simp at h;done)
   rename_i hkk;obtain ⟨rfl,hnc⟩:=hkk;obtain ⟨⟨l,hh⟩,hb,e⟩:=Option.map_eq_some_iff.1 h;simp only at e;obtain ⟨⟨b1,b2,b3,b4⟩,hl,hhh⟩:=lbounds_eq hb;simp only [Z0];refine ⟨b1,b2,b3,b4,hk _ ?_⟩;rw [<- hl,<- hhh];have hlh:l<=hh:=by omega
   have hhm:hh<=(mx'.getD (c:Int)).toNat:=by omega
   subst e
   by_cases hl0:l=0
   ·subst hl0
    simp only [if_true,Z0];have e1:Yv o 0 (mx'.getD (c:Int)).toNat 1=o:=by unfold Yv;split <;> simp
    rw [e1]
    cases mx' with
    | none=>simp only [Option.getD_none,Int.toNat_natCast,Nat.sub_zero];exact Wk.refl _
    | some m=>simp only [Option.getD_some,Nat.sub_zero];exact Wk.refl _
   ·rw [if_neg hl0]
    by_cases hlh':l=hh
    ·subst hlh'
     rw [if_pos rfl];simp only [Z0,Z1,Nat.sub_self];exact Wk.empty _ _ _
    ·rw [if_neg hlh']
     simp only [Z0];have e1:Yv o l (mx'.getD (c:Int)).toNat 1=o+l:=by
      unfold Yv;rw [if_neg (by omega),Nat.mul_one]
     rw [e1]
     cases mx' with
     | none=>simp only [Option.getD_none,Int.toNat_natCast];exact Wk.refl _
     | some m=>simp only [Option.getD_some];exact Wk.refl _
 ·rename_i hel
  simp only [hel]
  split at h
  ·rename_i n el harr
   simp only [harr]
   split at h <;> try (simp at h;done)
   rename_i bb hag;simp only [hag]
   split at h <;> try (simp at h;done)
   rename_i b o;obtain ⟨⟨l,hh⟩,hb,e⟩:=Option.map_eq_some_iff.1 h;simp only at e;obtain ⟨⟨b1,b2,b3,b4⟩,hl,hhh⟩:=lbounds_eq hb;simp only [Z0];refine ⟨b1,b2,b3,b4,hk _ ?_⟩;rw [<- hl,<- hhh];have hlh:l<=hh:=by omega
   have hhm:hh<=(mx'.getD (n:Int)).toNat:=by omega
   subst e
   by_cases hl0:l=0
   ·subst hl0
    simp only [if_true,Z0];have e1:Yv o 0 (mx'.getD (n:Int)).toNat 1=o:=by unfold Yv;split <;> simp
    rw [e1]
    cases mx' with
    | none=>simp only [Option.getD_none,Int.toNat_natCast,Nat.sub_zero];exact Wk.refl _
    | some m=>simp only [Option.getD_some,Nat.sub_zero];exact Wk.refl _
   ·rw [if_neg hl0]
    by_cases hlh':l=hh
    ·subst hlh'
     rw [if_pos rfl];simp only [Z0,Z1,Nat.sub_self];exact Wk.empty _ _ _
    ·rw [if_neg hlh']
     simp only [Z0];have e1:Yv o l (mx'.getD (n:Int)).toNat 1=o+l:=by
      unfold Yv;rw [if_neg (by omega),Nat.mul_one]
     rw [e1]
     cases mx' with
     | none=>simp only [Option.getD_none,Int.toNat_natCast];exact Wk.refl _
     | some m=>simp only [Option.getD_some];exact Wk.refl _
  ·rename_i harr
   simp only [harr]
   split at h <;> try (simp at h;done)
   rename_i y
   split at h <;> try (simp at h;done)
   rename_i hst;obtain ⟨hst,rfl⟩:=hst;obtain ⟨⟨l,hh⟩,hb,e⟩:=Option.map_eq_some_iff.1 h;simp only at e;obtain ⟨⟨b1,b2,b3,b4⟩,hl,hhh⟩:=lbounds_eq hb;simp only [Z0,size_bytes];refine ⟨hst,trivial,b1,b2,b3,b4,hk _ ?_⟩;rw [<- hl,<- hhh];subst e;rw [extract_bytes];simp only [Z0];exact Wk.refl _
theorem lslice_refs{P:Program}{t:TypeId}{x v:LV}{lo hi mx:Option LV}{st:St}(h:lslice P t x lo hi mx st=some v):∀ b∈Z5 v,b∈Z5 x:=by
 unfold lslice at h
 split at h <;> try (simp at h;done)
 split at h
 ·split at h <;> try (simp at h;done)
  split at h <;> try (simp at h;done)
  ·split at h <;> try (simp at h;done)
   obtain ⟨⟨l,hh⟩,hb,e⟩:=Option.map_eq_some_iff.1 h;subst e;simp [Z5]
  ·obtain ⟨⟨l,hh⟩,hb,e⟩:=Option.map_eq_some_iff.1 h
   subst e;simp [Z5]
  ·split at h <;> try (simp at h;done)
   obtain ⟨⟨l,hh⟩,hb,e⟩:=Option.map_eq_some_iff.1 h;simp only at e;subst e
   split
   ·simp [Z5]
   ·split <;> simp [Z5]
  ·split at h <;> try (simp at h;done)
   obtain ⟨⟨l,hh⟩,hb,e⟩:=Option.map_eq_some_iff.1 h;simp only at e;subst e
   split
   ·simp [Z5]
   ·split <;> simp [Z5]
 ·split at h
  ·split at h <;> try (simp at h;done)
   split at h <;> try (simp at h;done)
   obtain ⟨⟨l,hh⟩,hb,e⟩:=Option.map_eq_some_iff.1 h;simp only at e;subst e
   split
   ·simp [Z5]
   ·split <;> simp [Z5]
  ·split at h <;> try (simp at h;done)
   split at h <;> try (simp at h;done)
   obtain ⟨⟨l,hh⟩,hb,e⟩:=Option.map_eq_some_iff.1 h;subst e;simp [Z5]
theorem cap_flat(R:Inst){x:LV}(h:x.cap=true):∃ y,Z0 R true x=.v y:=by
 cases x <;> simp [LV.cap] at h <;> simp only [Z0] <;> exact ⟨_,rfl⟩
theorem caps_flat(R:Inst):∀ {xs:List LV},xs.all LV.cap=true->∃ ys,Yg (Z1 R true xs)=some ys
 | [],_=>⟨[],by simp [Z1,Yg]⟩
 | x::xs,h=>by
  simp only [List.all_cons,Bool.and_eq_true] at h;obtain ⟨y,hy⟩:=cap_flat R h.1;obtain ⟨ys,hys⟩:=caps_flat R h.2;exact ⟨y::ys,by simp [Z1,hy,Yg,hys]⟩
theorem one_inst(R:Inst){x:LV}(h:x.one=true):(Z0 R true x).one=true:=by
 cases x <;> simp only [LV.one] at h <;> (try simp at h) <;> simp only [Z0] <;> try rfl
 ·unfold Y0;split <;> rfl
 ·rename_i t y;rcases Yf t (Z0 R true y) with ⟨z,_,e⟩ | e <;> rw [e] <;> rfl
 ·rename_i f a c
  obtain ⟨ys,h1⟩:=caps_flat R (xs:=a) (by simpa using h.1)
  obtain ⟨zs,h2⟩:=caps_flat R (xs:=c) (by simpa using h.2)
  rw [h1,h2];rfl
theorem Wp(R:Inst){xs:List LV}(h:xs.all LV.one=true):(Z1 R true xs).all AV.one=true:=by
 rw [Zu,List.all_map,List.all_eq_true];intro x hx;exact one_inst R (List.all_eq_true.1 h x hx)
theorem splice_inst(R:Inst)(l:Bool)(cells cs:List LV)(off:Nat):Z1 R l (Z7 cells off cs)=splice (Z1 R l cells) off (Z1 R l cs):=by
 simp [Z7,splice,Zu,List.map_take,List.map_drop]
theorem inst_v_flat(R:Inst)(l:Bool)(v:LV){x:Value}(h:Z0 R l v=.v x):ofValue x=.v x:=by
 have key:∀ u:AV,u=.v x->(∀ cs,u≠.v (.agg cs))->(∀ cs,u≠.v (.tuple cs))->ofValue x=.v x:=by
  intro u hu h1 h2;subst hu
  cases x <;> simp [ofValue]
  ·exact absurd rfl (h1 _)
  ·exact absurd rfl (h2 _)
 refine key _ h ?_ ?_ <;> intro cs e <;> revert e <;> cases v <;> cases l <;> simp only [Z0] <;> try (simp;done)
 all_goals first
  | (unfold Y0;split <;> simp)
  | (rename_i t y;rcases Yf t (Z0 R _ y) with ⟨z,_,e⟩ | e <;> rw [e] <;> simp)
  | (unfold W8;split <;> simp)
theorem llen_sound{P:Program}{t:TypeId}{x v:LV}{st:St}{s:Hp}{K:AV->Prop}(R:Inst)(hs:SRel P R st s)(h:llen P t x st=some v)(hk:K (Z0 R true v)):alen P t (Z0 R true x) s K:=by
 unfold llen at h;unfold alen
 split at h
 ·rename_i el hel
  simp only [hel]
  split at h <;> try (simp at h;done)
  all_goals (injection h with h;subst h)
  ·simp only [Z0,Zj];simpa [Z0] using hk
  ·simp only [Z0];simpa [Z0] using hk
  ·rename_i k b i n c
   simp only [Z0,Y0]
   by_cases hz:(R.z b&&n==0)=true
   ·have:n=0:=by simp at hz;exact hz.2
    subst this;rw [if_pos hz];simpa [Z0] using hk
   ·rw [if_neg hz];simpa [Z0] using hk
  ·simp only [Z0];simpa [Z0] using hk
 ·rename_i hel
  simp only [hel]
  split at h
  ·rename_i n el harr
   simp only [harr];injection h with h;subst h;simpa [Z0] using hk
  ·rename_i harr
   simp only [harr]
   split at h <;> try (simp at h;done)
   ·split at h <;> try (simp at h;done)
    injection h with h;subst h
    simp only [Z0,size_bytes];exact ⟨by assumption,by simpa [Z0] using hk⟩
   ·split at h <;> try (simp at h;done)
    injection h with h;subst h
    simp only [Z0];exact ⟨by assumption,by simpa [Z0] using hk⟩
   ·split at h <;> try (simp at h;done)
    rename_i b hm
    split at h <;> try (simp at h;done)
    rename_i k es hl;injection h with h;subst h
    obtain ⟨es',hes,hmem⟩:=hs.map hl;simp only [Z0,Yy hs.nd hmem];refine ⟨hm,?_⟩;have:es'.length=es.length:=by have:=hes.perm.length_eq;simpa [W9] using this
    rw [this];simpa [Z0] using hk
theorem llen_refs{P:Program}{t:TypeId}{x v:LV}{st:St}(h:llen P t x st=some v):Z5 v=[]:=by
 unfold llen at h
 split at h
 ·split at h <;> simp at h <;> subst h <;> simp [Z5]
 ·split at h
  ·simp at h;subst h;simp [Z5]
  ·split at h <;> try (simp at h;done)
   ·split at h <;> simp at h;subst h;simp [Z5]
   ·split at h <;> simp at h;subst h;simp [Z5]
   ·split at h <;> try (simp at h;done)
    split at h <;> simp at h;subst h;simp [Z5]
theorem lassert_sound{P:Program}{x v:LV}{as:TypeId}{c:Bool}{K:AV->Prop}(R:Inst)(h:lassert P x as c=some v)(hk:K (Z0 R true v)):aassertAny P (Z0 R true x) as c K:=by
 unfold lassert at h;unfold aassertAny
 split at h
 ·rename_i hi
  split at h <;> try (simp at h;done)
  rename_i z hz;obtain ⟨zv,hz1,hz2,hz3,hz4⟩:=zelem_eq R hz;simp only [hi];unfold aassert;refine ⟨hi,?_⟩
  split at h <;> try (simp at h;done)
  ·injection h with h;subst h
   simp only [Z0,hz1];simp only [Z0,Z1,hz3] at hk;exact hk
  ·rename_i t y
   injection h with h;subst h
   simp only [Z0]
   rcases Yf t (Z0 R true y) with ⟨yv,e1,e⟩ | e <;> rw [e]
   ·by_cases ht:t=as
    ·simp only [ht,if_true] at hk ⊢
     simp only [Z0,Z1,e1] at hk;rw [inst_v_flat R true y e1];exact hk
    ·simp only [ht,if_false] at hk ⊢
     simp only [hz1];simp only [Z0,Z1,hz3] at hk;exact hk
   ·by_cases ht:t=as
    ·simp only [ht,if_true] at hk ⊢
     simp only [Z0,Z1] at hk;exact hk
    ·simp only [ht,if_false] at hk ⊢
     simp only [hz1];simp only [Z0,Z1,hz3] at hk;exact hk
 ·rename_i hi
  split at h <;> try (simp at h;done)
  rename_i hz;obtain ⟨zv,hz1,hz2,hz3,hz4⟩:=zelem_eq R hz;have hzn:zv=.nilIface:=by
   have h1:=hz3 true;simp only [Z0] at h1
   cases zv <;> simp [ofValue] at h1 <;> rfl
  subst hzn;simp only [hi];refine ⟨hz1,?_⟩;unfold V6;simp only [hi]
  split at h <;> try (simp at h;done)
  ·injection h with h;subst h
   simp only [Z0];simp only [Z0,Z1] at hk;exact ⟨trivial,hk⟩
  ·rename_i t y
   split at h <;> try (simp at h;done)
   ·rename_i hm
    injection h with h;subst h
    simp only [Z0,Z1] at hk ⊢
    rcases Yf t (Z0 R true y) with ⟨yv,e1,e⟩ | e <;> rw [e] at hk ⊢ <;> simp only [hm] <;> exact hk
   ·rename_i hm
    injection h with h;subst h
    simp only [Z0,Z1] at hk ⊢
    rcases Yf t (Z0 R true y) with ⟨yv,e1,e⟩ | e <;> rw [e] <;> simp only [hm] <;> exact ⟨trivial,hk⟩
 ·rename_i hi
  simp only [hi];unfold V6;simp only [hi]
  split at h <;> try (simp at h;done)
  rename_i t y
  split at h <;> try (simp at h;done)
  rename_i hm;injection h with h;subst h
  simp only [Z0] at hk ⊢
  rcases Yf t (Z0 R true y) with ⟨yv,e1,e⟩ | e <;> rw [e] at hk ⊢ <;> simp only [hm] <;> exact hk
 ·rename_i hi
  simp only [hi];unfold V6;simp only [hi]
  split at h <;> try (simp at h;done)
  rename_i t y
  split at h <;> try (simp at h;done)
  rename_i hm;injection h with h;subst h
  simp only [Z0]
  rcases Yf t (Z0 R true y) with ⟨yv,e1,e⟩ | e <;> rw [e]
  ·simp only;exact ⟨hm,trivial,by rw [<- e1];exact hk⟩
  ·simp only;exact ⟨hm,trivial,hk⟩
 ·simp at h
theorem lassert_refs{P:Program}{x v:LV}{as:TypeId}{c:Bool}(h:lassert P x as c=some v):∀ b∈Z5 v,b∈Z5 x:=by
 unfold lassert at h
 split at h
 ·split at h <;> try (simp at h;done)
  rename_i z hz;obtain ⟨zv,hz1,hz2,hz3,hz4⟩:=zelem_eq ⟨id,id,fun _=>false⟩ hz
  split at h <;> try (simp at h;done)
  ·injection h with h;subst h;simp [Z5,Z9,hz4]
  ·injection h with h;subst h
   split <;> simp [Z5,Z9,hz4]
 ·split at h <;> try (simp at h;done)
  split at h <;> try (simp at h;done)
  ·injection h with h;subst h;simp [Z5,Z9]
  ·split at h <;> try (simp at h;done)
   all_goals (injection h with h;subst h;simp [Z5,Z9])
 ·split at h <;> try (simp at h;done)
  split at h <;> try (simp at h;done)
  injection h with h;subst h;simp [Z5]
 ·split at h <;> try (simp at h;done)
  split at h <;> try (simp at h;done)
  injection h with h;subst h;simp [Z5]
 ·simp at h
def LPost(P:Program)(R:Inst)(st:St)(v:LV)(st':St)(r:AV)(t:Hp):Prop:=
 ∃ R' s',Agree st.next R R'/\st.next<=st'.next/\Wk r (Z0 R' true v)/\(∀ b∈Z5 v,b<st'.next)/\HpWk t s'/\SRel P R' st' s'
theorem LPost.pure{P:Program}{R:Inst}{st:St}{s:Hp}{v:LV}{r:AV}(hs:SRel P R st s)(hw:Wk r (Z0 R true v))(hr:∀ b∈Z5 v,b<st.next):LPost P R st v st r s:=
 ⟨R,s,Agree.refl _ _,Nat.le_refl _,hw,hr,HpWk.refl _,hs⟩
theorem set_perm{s rest:Hp}{a:Nat}{o o':AObj}(h:s.Perm ((a,o)::rest))(hn:s.keys.Nodup):(s.set a o').Perm ((a,o')::rest):=by
 have h1:(s.set a o').Perm (Hp.set ((a,o)::rest) a o'):=h.map _;have hn':(Hp.keys ((a,o)::rest)).Nodup:=(Wi h).nodup_iff.1 hn;have h2:Hp.set ((a,o)::rest) a o'=(a,o')::rest:=by
  rw [Ym,if_pos rfl];rw [hp_nodup_cons] at hn';rw [X3 _ hn'.1]
 rw [h2] at h1;exact h1
theorem del_perm{s rest:Hp}{a:Nat}{o:AObj}(h:s.Perm ((a,o)::rest))(hn:s.keys.Nodup):(s.del a).Perm rest:=by
 have h1:(s.del a).Perm (Hp.del ((a,o)::rest) a):=h.filter _;have hn':(Hp.keys ((a,o)::rest)).Nodup:=(Wi h).nodup_iff.1 hn;rw [hp_del_cons,if_pos rfl] at h1;rw [hp_nodup_cons] at hn';rw [hp_del_out hn'.1] at h1;exact h1
theorem oset_keys:∀ (l:List (Nat × LObj)) (b:Nat) (o:LObj),(oset l b o).map (·.1)=l.map (·.1)
 | [],b,o=>rfl
 | (k,x)::l,b,o=>by
  unfold oset
  split <;> simp [oset_keys l b o]
theorem oset_mem:∀ {l:List (Nat × LObj)} {b:Nat} {o:LObj} {p:Nat × LObj},p∈oset l b o->p=(b,o)∨p∈l
 | (k,x)::l,b,o,p,h=>by
  unfold oset at h
  split at h
  ·rename_i e
   rcases List.mem_cons.1 h with rfl | h
   ·subst e;exact .inl rfl
   ·exact .inr (List.mem_cons_of_mem _ h)
  ·rcases List.mem_cons.1 h with rfl | h
   ·exact .inr List.mem_cons_self
   ·rcases oset_mem h with h | h
    ·exact .inl h
    ·exact .inr (List.mem_cons_of_mem _ h)
theorem Xj:∀ (l:List (Nat × LObj)) (b:Nat),(Yo l b).Sublist l
 | [],b=>.slnil
 | (k,x)::l,b=>by
  unfold Yo
  split
  ·exact List.sublist_cons_self _ _
  ·exact (Xj l b).cons_cons _
theorem SRel.open{P:Program}{R:Inst}{st:St}{s:Hp}(h:SRel P R st s){b:Nat}{o:LObj}(hl:st.look b=some o):
  ∃ t1 t2,ObjE P R b o t1/\s.Perm (t1++t2)/\(t1++t2).keys.Nodup /\
   (∀ o' t1',ObjE P R b o' t1'->(t1'++t2).keys.Nodup->(∀ r∈Y1 P o',r<st.next)->∃ s',SRel P R (st.set b o') s'/\s'.Perm (t1'++t2)) /\
   (∃ s',SRel P R (st.del b) s'/\s'=t2):=by
 obtain ⟨t1,t2,h1,h2,h3,h4⟩:=h.ents.focus hl;have hn:=(Wi h3).nodup_iff.1 h.nd;refine ⟨t1,t2,h1,h3,hn,fun o' t1' ho hn' hr=>?_,t2,?_,rfl⟩
 ·obtain ⟨s',g1,g2⟩:=h4 o' t1' ho
  refine ⟨s',⟨g1,(Wi g2).nodup_iff.2 hn',by rw [show (st.set b o').objs=oset st.objs b o' from rfl,oset_keys];exact h.ok,fun p hp=>?_,fun p hp=>?_⟩,g2⟩
  ·rcases oset_mem hp with rfl | hp
   ·exact h.lt (b,o) (olook_mem hl)
   ·exact h.lt p hp
  ·rcases oset_mem hp with rfl | hp
   ·exact hr
   ·exact h.ws p hp
 ·refine ⟨h2,?_,h.ok.sublist ((Xj _ _).map _),fun p hp=>h.lt p ((Xj _ _).subset hp),fun p hp=>h.ws p ((Xj _ _).subset hp)⟩
  rw [hpk_append] at hn;exact (List.nodup_append.1 hn).2.1
theorem CellE.same{P:Program}{R R':Inst}{c:LV}{u:AV}{t:Hp}(h:CellE P R c u t)(hs:∀ b∈Z5 c,Same R R' b):CellE P R' c u t:=by
 cases h with
 | ownNil e k=>exact .ownNil e k
 | own e k xs q cap hf h=>rw [Ye R' R];exact .own e k xs q cap hf h
 | omap k ks vs q es' h =>
  refine .omap k ks vs q es' ⟨?_,h.nd⟩;have:W9 R' (ks.zip vs)=W9 R (ks.zip vs):=List.map_congr_left fun p _=>by rw [Wm R R']
  rw [this];exact h.perm
 | other c hc=>rw [<- inst_same R R' true c hs];exact .other c hc
theorem CellsE.same{P:Program}{R R':Inst}{cs:List LV}{us:List AV}{t:Hp}(h:CellsE P R cs us t):(∀ b∈Z9 cs,Same R R' b)->CellsE P R' cs us t:=by
 induction h with
 | nil=>intro _;exact .nil
 | cons h k ih =>
  intro hs;exact .cons (h.same fun b hb=>hs b (by simp [Z9,hb])) (ih fun b hb=>hs b (by simp [Z9,hb]))
theorem CellsE.length{P:Program}{R:Inst}{cs:List LV}{us:List AV}{t:Hp}(h:CellsE P R cs us t):cs.length=us.length:=by
 induction h with
 | nil=>rfl
 | cons h k ih=>simp [ih]
theorem CellsE.append{P:Program}{R:Inst}{cs ds:List LV}{us ws:List AV}{t s:Hp}(h:CellsE P R cs us t)(k:CellsE P R ds ws s):CellsE P R (cs++ds) (us++ws) (t++s):=by
 induction h with
 | nil=>exact k
 | cons h _ ih=>simp only [List.cons_append,List.append_assoc];exact .cons h ih
theorem CellsE.split{P:Program}{R:Inst}{cs:List LV}{us:List AV}{t:Hp}(h:CellsE P R cs us t):∀ n,∃ t1 t2,CellsE P R (cs.take n) (us.take n) t1/\CellsE P R (cs.drop n) (us.drop n) t2/\t=t1++t2:=by
 induction h with
 | nil=>intro n;exact ⟨[],[],by simpa using .nil,by simpa using .nil,rfl⟩
 | cons h k ih =>
  rename_i c u t cs us s;intro n
  cases n with
  | zero=>exact ⟨[],t++s,by simpa using .nil,by simpa using .cons h k,rfl⟩
  | succ n =>
   obtain ⟨t1,t2,h1,h2,rfl⟩:=ih n;exact ⟨t++t1,t2,by simpa using .cons h h1,by simpa using h2,by simp⟩
theorem CellsE.plain(P:Program)(R:Inst):∀ {cs:List LV},(∀ c∈cs,c.plain=true)->CellsE P R cs (Z1 R true cs) []
 | [],_=>by simp only [Z1];exact .nil
 | c::cs,h=>by
  simp only [Z1];exact .cons (t:=[]) (.other c (h c List.mem_cons_self)) (CellsE.plain P R fun d hd=>h d (List.mem_cons_of_mem _ hd))
theorem one_plain{c:LV}(h:c.one=true):c.plain=true:=by cases c <;> simp_all [LV.one,LV.plain]
theorem CellsE.get{P:Program}{R:Inst}{cs:List LV}{us:List AV}{t:Hp}(h:CellsE P R cs us t)(j:Nat)(c:LV)(hc:cs[j]? = some c):
  ∃ u t1 ta tb,us[j]? = some u/\CellE P R c u t1/\t=ta++t1++tb/\(∀ R' c' u' t1',(∀ r∈Z9 cs,Same R R' r)->CellE P R' c' u' t1'->CellsE P R' (cs.set j c') (us.set j u') (ta++t1'++tb)):=by
 induction h generalizing j with
 | nil=>simp at hc
 | cons h k ih =>
  rename_i d u t cs us s
  cases j with
  | zero =>
   simp at hc;subst hc;exact ⟨u,t,[],s,rfl,h,by simp,fun R' c' u' t1' hs hc'=>by simpa using CellsE.cons hc' (k.same fun r hr=>hs r (by simp [Z9,hr]))⟩
  | succ j =>
   obtain ⟨u',t1,ta,tb,h1,h2,rfl,h4⟩:=ih j (by simpa using hc)
   exact ⟨u',t1,t++ta,tb,by simpa using h1,h2,by simp,fun R' c' w' t1' hs hc'=>by simpa using CellsE.cons (h.same fun r hr=>hs r (by simp [Z9,hr])) (h4 R' c' w' t1' (fun r hr=>hs r (by simp [Z9,hr])) hc')⟩
theorem ObjE.same{P:Program}{R R':Inst}{b:Nat}{o:LObj}{t:Hp}(h:ObjE P R b o t)(hb:Same R R' b)(hs:∀ r∈Y1 P o,Same R R' r):ObjE P R' b o t:=by
 cases h with
 | box e cs us t h=>rw [<- hb.1];exact .box e cs us t (h.same hs)
 | rowNil e k hz=>exact .rowNil e k (by rw [hb.2.2];exact hz)
 | row e k xs hz ok =>
  have h1:Z1 R (rlv P e) xs=Z1 R' (rlv P e) xs:=by
   unfold rlv
   by_cases hf:Y4 P e=true
   ·rw [hf];exact Ye R' R xs
   ·simp only [Bool.not_eq_true] at hf
    rw [hf];exact (V9 R R' true xs (by simpa [Y1,hf] using hs)).symm
  rw [h1,<- hb.1,<- hb.2.1];exact .row e k xs (by rw [hb.2.2];exact hz) (by rw [hb.2.1];exact ok)
 | map k es es' h =>
  rw [<- hb.1];refine .map k es es' ⟨?_,h.nd⟩;have:W9 R' es=W9 R es:=List.map_congr_left fun p _=>by rw [Wm R R']
  rw [this];exact h.perm
theorem Ents.same{P:Program}{R R':Inst}{l:List (Nat × LObj)}{s:Hp}(h:Ents P R l s):(∀ p∈l,Same R R' p.1/\∀ r∈Y1 P p.2,Same R R' r)->Ents P R' l s:=by
 induction h with
 | nil=>intro _;exact .nil
 | cons h k ih =>
  intro hs;exact .cons (h.same (hs _ List.mem_cons_self).1 (hs _ List.mem_cons_self).2) (ih fun p hp=>hs p (List.mem_cons_of_mem _ hp))
theorem SRel.same{P:Program}{R R':Inst}{st:St}{s:Hp}(h:SRel P R st s)(ha:Agree st.next R R'):SRel P R' st s:=
 ⟨h.ents.same fun p hp=>⟨ha _ (h.lt p hp),fun r hr=>ha _ (h.ws p hp r hr)⟩,h.nd,h.ok,h.lt,h.ws⟩
theorem SRel.add{P:Program}{R:Inst}{st:St}{s:Hp}(h:SRel P R st s)(R':Inst)(ha:Agree st.next R R')(o:LObj)(t:Hp)(ho:ObjE P R' st.next o t)(hn:(t++s).keys.Nodup)(hr:∀ r∈Y1 P o,r<st.next+1):SRel P R' (st.add o) (t++s):=by
 refine ⟨.cons ho (h.same ha).ents,hn,?_,fun p hp=>?_,fun p hp r hr'=>?_⟩
 ·simp only [St.add,List.map_cons,List.nodup_cons]
  refine ⟨fun hm=>?_,h.ok⟩
  obtain ⟨p,hp,e⟩:=List.mem_map.1 hm;have:=h.lt p hp;omega
 ·simp only [St.add] at hp ⊢
  rcases List.mem_cons.1 hp with rfl | hp
  ·exact Nat.lt_succ_self _
  ·exact Nat.lt_succ_of_lt (h.lt p hp)
 ·simp only [St.add] at hp ⊢
  rcases List.mem_cons.1 hp with rfl | hp
  ·exact hr r hr'
  ·exact Nat.lt_succ_of_lt (h.ws p hp r hr')
def Inst.ext(R:Inst)(n:Nat)(q cap:Nat)(z:Bool):Inst:=
 ⟨fun b=>if b=n then q else R.ρ b,fun b=>if b=n then cap else R.κ b,fun b=>if b=n then z else R.z b⟩
theorem Wn(R:Inst)(n q cap:Nat)(z:Bool):Agree n R (R.ext n q cap z):=fun b hb=>by
 have:b≠n:=by omega
 simp [Same,Inst.ext,this]
theorem ext_self(R:Inst)(n q cap:Nat)(z:Bool):(R.ext n q cap z).ρ n=q/\(R.ext n q cap z).κ n=cap/\(R.ext n q cap z).z n=z:=by simp [Inst.ext]
theorem look_mem{st:St}{b:Nat}{o:LObj}(h:st.look b=some o):(b,o)∈st.objs:=olook_mem h
theorem SRel.look_lt{P:Program}{R:Inst}{st:St}{s:Hp}(h:SRel P R st s){b:Nat}{o:LObj}(hl:st.look b=some o):b<st.next:=h.lt (b,o) (look_mem hl)
theorem SRel.look_ws{P:Program}{R:Inst}{st:St}{s:Hp}(h:SRel P R st s){b:Nat}{o:LObj}(hl:st.look b=some o):∀ r∈Y1 P o,r<st.next:=h.ws (b,o) (look_mem hl)
theorem Yi{n:Nat}{R R':Inst}(ha:Agree n R R')(l:Bool){v:LV}(h:∀ b∈Z5 v,b<n):Z0 R' l v=Z0 R l v:=inst_same R R' l v fun b hb=>ha b (h b hb)
theorem instL_agree{n:Nat}{R R':Inst}(ha:Agree n R R')(l:Bool){v:List LV}(h:∀ b∈Z9 v,b<n):Z1 R' l v=Z1 R l v:=V9 R R' l v fun b hb=>ha b (h b hb)
theorem nodup_cons{b:Nat}{o:AObj}{s:Hp}(hb:b∉s.keys)(hn:s.keys.Nodup):(Hp.keys ((b,o)::s)).Nodup:=by rw [hp_nodup_cons];exact ⟨hb,hn⟩
theorem box_new{P:Program}{R:Inst}{st:St}{s:Hp}(hs:SRel P R st s)(t:TypeId){cs:List LV}(h1:cs.all LV.one=true)(hr:∀ b∈Z9 cs,b<st.next)(b:Nat)(hb:b∉s.keys):
  LPost P R st (.ptr st.next 0) (st.add (.box t cs)) (.v (.pointer (some ⟨b,0,none⟩))) ((b,.cells t (Z1 R true cs) (Z1 R true cs).length)::s):=by
 have ha:=Wn R st.next b 0 false;have hx:=ext_self R st.next b 0 false;refine ⟨R.ext st.next b 0 false,_,ha,Nat.le_succ _,?_,?_,HpWk.refl _,?_⟩
 ·simp only [Z0,hx.1];exact Wk.refl _
 ·intro c hc;simp [Z5] at hc;subst hc;simp [St.add]
 ·have ho:ObjE P (R.ext st.next b 0 false) st.next (.box t cs) [(b,.cells t (Z1 R true cs) (Z1 R true cs).length)]:=by
   have:=ObjE.box (P:=P) (R:=R.ext st.next b 0 false) (b:=st.next) t cs _ _ (CellsE.plain P _ fun c hc=>one_plain (List.all_eq_true.1 h1 c hc))
   rw [hx.1,instL_agree ha true hr] at this;exact this
  exact hs.add _ ha _ _ ho (nodup_cons hb hs.nd) fun r hr'=>Nat.lt_succ_of_lt (hr r (by simpa [Y1] using hr'))
theorem lbox_sound{P:Program}{R:Inst}{st st':St}{s:Hp}{t:TypeId}{x v:LV}(hs:SRel P R st s)(hr:∀ b∈Z5 x,b<st.next)(h:lbox t x st=some (v,st')):
  abox t (Z0 R true x) s (fun r t=>LPost P R st v st' r t):=by
 unfold lbox at h
 split at h <;> simp at h
 rename_i h1;obtain ⟨rfl,rfl⟩:=h
 unfold abox;rw [Zw];exact ⟨Wp R h1,fun b hb=>box_new hs t h1 (fun c hc=>hr c (refs_lcells x c hc)) b hb⟩
theorem ofCell_one(x:Value)(h:(Wr x).isAny=false):(Wr x).one=true:=by
 unfold Wr at h ⊢
 split <;> first | rfl | simp_all [LV.isAny]
theorem zelem_one{P:Program}{t:TypeId}{z:LV}(h:zelem P t=some z):(Z4 z).all LV.one=true:=by
 obtain ⟨zv,h1,h2,h3,h4⟩:=zelem_eq ⟨id,id,fun _=>false⟩ h
 have hn:(Ww zv).isAny=false:=by
  unfold zelem at h;rw [h1] at h
  split at h <;> simp_all
 subst h2
 cases zv
 case agg cs =>
  simp only [Ww] at hn ⊢
  split at hn
  ·simp [LV.isAny] at hn
  ·rename_i hc
   rw [if_neg hc];simp only [Z4];rw [List.all_eq_true];intro y hy;have hy':∀ l:List Value,y∈X7 l->∃ x,y=Wr x:=by
    intro l
    induction l with
    | nil=>simp [X7]
    | cons x l ih =>
     intro hm
     rcases List.mem_cons.1 hm with rfl | hm
     ·exact ⟨x,rfl⟩
     ·exact ih hm
   obtain ⟨x,rfl⟩:=hy' _ hy;refine ofCell_one x ?_
   simp only [Bool.not_eq_true,List.any_eq_false] at hc;simpa using hc _ hy
 all_goals
  simp only [Ww] at hn ⊢;have h1:=ofCell_one _ hn
  revert h1
  generalize Wr _=y;intro h1
  cases y <;> simp_all [Z4,LV.one]
theorem lalloc_sound{P:Program}{R:Inst}{st st':St}{s:Hp}{t:TypeId}{v:LV}(hs:SRel P R st s)(h:lalloc P t st=some (v,st')):
  aalloc P t s (fun r t=>LPost P R st v st' r t):=by
 unfold lalloc at h
 split at h <;> simp at h
 rename_i z hz;obtain ⟨rfl,rfl⟩:=h
 obtain ⟨zv,h1,h2,h3,h4,h5⟩:=zelem_cells R hz;unfold aalloc;simp only [h1];intro b hb;have:=box_new hs t (zelem_one hz) (by rw [h3];simp) b hb
 rw [h2 true] at this;have e:(Yr zv).length=zv.cells.size:=by simp [Yr]
 rw [e] at this;exact this
theorem instL_rlv{P:Program}{n:Nat}{R R':Inst}(ha:Agree n R R'){el:TypeId}{xs:List LV}(h:Y4 P el=false->∀ b∈Z9 xs,b<n):Z1 R' (rlv P el) xs=Z1 R (rlv P el) xs:=by
 unfold rlv
 cases hf:Y4 P el
 ·exact instL_agree ha true (h hf)
 ·exact Ye R R' xs
theorem row_new{P:Program}{R:Inst}{st:St}{s:Hp}(hs:SRel P R st s)(el k:Nat){xs:List LV}(n cap:Nat)(hn:n<=xs.length)(hcap:xs.length<=cap)(hmax:cap<=maxLen)(hbig:xs.length<=big)(h1:∀ x∈xs,(Z4 x).length=k)(h2:Y4 P el=true->∀ x∈xs,(Z4 x).all LV.oneD=true)(hr:Y4 P el=false->∀ b∈Z9 xs,b<st.next)(b:Nat)(hb:b∉s.keys)(us:List AV)(hus:WkL us ((Z1 R (rlv P el) xs).flatMap cellsOf)):
  LPost P R st (.sl k st.next 0 n none) (st.add (.row el k xs)) (.v (.slice (some ⟨b,0,none⟩) n cap)) ((b,.cells el us (cap*k))::s):=by
 have ha:=Wn R st.next b cap false;have hx:=ext_self R st.next b cap false;refine ⟨R.ext st.next b cap false,(b,.cells el ((Z1 R (rlv P el) xs).flatMap cellsOf) (cap*k))::s,ha,Nat.le_succ _,?_,?_,?_,?_⟩
 ·simp only [Z0,Y0,hx.1,hx.2.1,hx.2.2,Bool.false_and,Bool.false_eq_true,if_false,Nat.zero_mul,Option.getD_none,Nat.sub_zero];exact Wk.refl _
 ·intro c hc;simp [Z5] at hc;subst hc;simp [St.add]
 ·refine ⟨fun p hp=>?_,fun hn=>by simpa [Hp.keys] using hn⟩
  rcases List.mem_cons.1 hp with rfl | hp
  ·exact ⟨_,List.mem_cons_self,.cells _ _ hus⟩
  ·exact ⟨p.2,List.mem_cons_of_mem _ hp,.refl _⟩
 ·have ho:ObjE P (R.ext st.next b cap false) st.next (.row el k xs) [(b,.cells el ((Z1 R (rlv P el) xs).flatMap cellsOf) (cap*k))]:=by
   have:=ObjE.row (P:=P) (R:=R.ext st.next b cap false) (b:=st.next) el k xs hx.2.2 ⟨h1,h2,by rw [hx.2.1];exact hcap,by rw [hx.2.1];exact hmax,hbig⟩
   rw [hx.1,hx.2.1,instL_rlv ha hr] at this;exact this
  refine hs.add _ ha _ _ ho (nodup_cons hb hs.nd) fun r hr'=>?_
  simp only [Y1] at hr'
  split at hr'
  ·simp at hr'
  ·rename_i hf
   exact Nat.lt_succ_of_lt (hr (by simpa using hf) r hr')
theorem wk_rlv(R:Inst)(b:Bool)(xs:List LV):WkL ((Z1 R true xs).flatMap cellsOf) ((Z1 R b xs).flatMap cellsOf):=by
 cases b
 ·rw [Zu,Zu]
  exact (CWkL.of (Z0 R true) (Z0 R false) xs fun x _=>cwk_dead R x).flat
 ·exact WkL.refl _
theorem flat_instL(R:Inst)(l:Bool)(xs:List LV):(Z1 R l xs).flatMap cellsOf=xs.flatMap fun x=>Z1 R l (Z4 x):=by
 induction xs with
 | nil=>simp [Z1]
 | cons x xs ih=>simp only [Z1,List.flatMap_cons,Zw,ih]
theorem flat_replicate(R:Inst)(l:Bool)(z:LV):∀ n,(Z1 R l (List.replicate n z)).flatMap cellsOf=bcellsR n (Z1 R l (Z4 z))
 | 0=>by simp [Z1,bcellsR]
 | n+1=>by
  simp only [List.replicate_succ,Z1,List.flatMap_cons,bcellsR,Zw];rw [flat_replicate R l z n]
theorem refsL_replicate{z:LV}(h:Z5 z=[])(n:Nat):Z9 (List.replicate n z)=[]:=by
 induction n with
 | zero=>rfl
 | succ n ih=>simp [List.replicate_succ,Z9,h,ih]
theorem lmakeSlice_sound{P:Program}{R:Inst}{st st':St}{s:Hp}{t:TypeId}{l c v:LV}(hs:SRel P R st s)(h:lmakeSlice P t l c st=some (v,st')):
  amakeSlice P t (Z0 R true l) (Z0 R true c) s (fun r t=>LPost P R st v st' r t):=by
 unfold lmakeSlice at h
 split at h <;> try (simp at h;done)
 rename_i k1 l k2 c;simp only [Z0,amakeSlice]
 split at h <;> try (simp at h;done)
 rename_i el hel;simp only [hel]
 split at h <;> try (simp at h;done)
 rename_i ag k by_ z hag hby hz
 split at h <;> try (simp at h;done)
 rename_i hc;simp at h;obtain ⟨rfl,rfl⟩:=h
 obtain ⟨hby0,hk,hzk,hz1,hl,hlc,hb1,hb2⟩:=hc;obtain ⟨zv,e1,e2,e3,e4,e5⟩:=zelem_cells R hz;simp only [hag,hby,e1];refine ⟨hk,by rw [e5];exact hzk,hl,hlc,hb1,hb2,fun b hb=>?_⟩
 have hlen:(List.replicate c.toNat z).length=c.toNat:=by simp
 obtain ⟨_,_,_,_,hzr⟩:=zelem_eq R hz;have hcb:c.toNat<=big:=by
  have h1:(1:Int)*c<=(by_:Int)*c:=Int.mul_le_mul_of_nonneg_right (by omega) (by omega)
  unfold big;omega
 refine row_new hs el k l.toNat c.toNat (by rw [hlen];omega) (by rw [hlen];exact Nat.le_refl _) (by unfold maxLen;omega) (by rw [hlen];exact hcb) (fun x hx=>by rw [(List.mem_replicate.1 hx).2];exact hzk) (fun hf x hx=>by rw [(List.mem_replicate.1 hx).2];rw [hf] at hz1;exact hz1)
  (fun _=>by rw [refsL_replicate hzr];simp) b hb _ ?_
 rw [flat_replicate,e2];have:mcells zv c.toNat k=bcellsR c.toNat (Yr zv):=bcells_eq (by simp [Yr];rw [e5];exact hzk)
 rw [this];exact WkL.refl _
theorem X4(R:Inst)(l:Bool){k:Nat}:∀ {xs:List LV},(∀ x∈xs,(Z4 x).length=k)->((Z1 R l xs).flatMap cellsOf).length=xs.length*k
 | [],_=>by simp [Z1]
 | x::xs,h=>by
  simp only [Z1,List.flatMap_cons,List.length_append,Zw,Zj,List.length_cons];rw [X4 R l fun y hy=>h y (List.mem_cons_of_mem _ hy),h x List.mem_cons_self,Nat.add_mul];omega
theorem X0(R:Inst)(l:Bool)(xs ys:List LV):(Z1 R l (xs++ys)).flatMap cellsOf=(Z1 R l xs).flatMap cellsOf++(Z1 R l ys).flatMap cellsOf:=by
 rw [instL_append,List.flatMap_append]
theorem flat_take(R:Inst)(l:Bool){k:Nat}{xs:List LV}(h:∀ x∈xs,(Z4 x).length=k)(n:Nat)(hn:n<=xs.length):
  ((Z1 R l xs).flatMap cellsOf).take (n*k)=(Z1 R l (xs.take n)).flatMap cellsOf:=by
 conv=>lhs;rw [<- List.take_append_drop n xs,X0]
 rw [List.take_append_of_le_length (by rw [X4 R l fun x hx=>h x (List.mem_of_mem_take hx)];simp;rw [Nat.min_eq_left hn];exact Nat.le_refl _)]
 rw [List.take_of_length_le];rw [X4 R l fun x hx=>h x (List.mem_of_mem_take hx)]
 simp;exact Nat.mul_le_mul_right _ (Nat.min_le_left _ _)
theorem flat_drop(R:Inst)(l:Bool){k:Nat}{xs:List LV}(h:∀ x∈xs,(Z4 x).length=k)(n:Nat)(hn:n<=xs.length):
  ((Z1 R l xs).flatMap cellsOf).drop (n*k)=(Z1 R l (xs.drop n)).flatMap cellsOf:=by
 conv=>lhs;rw [<- List.take_append_drop n xs,X0]
 have:((Z1 R l (xs.take n)).flatMap cellsOf).length=n*k:=by
  rw [X4 R l fun x hx=>h x (List.mem_of_mem_take hx)];simp [Nat.min_eq_left hn]
 rw [<- this,List.drop_left]
theorem set_split{xs:List LV}{i:Nat}{y:LV}(hy:xs[i]? = some y):xs=xs.take i++y::xs.drop (i+1)/\(∀ z,xs.set i z=xs.take i++z::xs.drop (i+1))/\(xs.take i).length=i:=by
 obtain ⟨hi,he⟩:=List.getElem?_eq_some_iff.1 hy;refine ⟨?_,fun z=>?_,by simp;omega⟩
 ·rw [<- he,<- List.drop_eq_getElem_cons hi,List.take_append_drop]
 ·rw [List.set_eq_take_append_cons_drop,if_pos hi]
theorem splice_mid{α:Type}(a m c cs:List α)(o:Nat)(h:o+cs.length<=m.length):splice (a++(m++c)) (a.length+o) cs=a++(splice m o cs++c):=by
 unfold splice;have e1:(a++(m++c)).take (a.length+o)=a++m.take o:=by
  rw [List.take_append,List.take_of_length_le (by omega),Nat.add_sub_cancel_left,List.take_append_of_le_length (by omega)]
 have e2:(a++(m++c)).drop (a.length+o+cs.length)=m.drop (o+cs.length)++c:=by
  rw [Nat.add_assoc,List.drop_append,List.drop_of_length_le (by omega),List.nil_append,Nat.add_sub_cancel_left,List.drop_append_of_le_length h]
 rw [e1,e2];simp
theorem flat_set(R:Inst)(l:Bool){k:Nat}{xs:List LV}(h:∀ x∈xs,(Z4 x).length=k){i:Nat}{y z:LV}(hy:xs[i]? = some y){o:Nat}{cs:List LV}(ho:o+cs.length<=(Z4 y).length)(hz:Z4 z=Z7 (Z4 y) o cs):(Z1 R l (xs.set i z)).flatMap cellsOf=splice ((Z1 R l xs).flatMap cellsOf) (i*k+o) (Z1 R l cs):=by
 obtain ⟨e1,e2,e3⟩:=set_split hy;rw [e2]
 conv=>rhs;rw [e1]
 have hl:((Z1 R l (xs.take i)).flatMap cellsOf).length=i*k:=by
  rw [X4 R l fun x hx=>h x (List.mem_of_mem_take hx),e3]
 rw [X0,X0];simp only [Z1,List.flatMap_cons];rw [<- hl,splice_mid _ _ _ _ _ (by rw [Zw,Zj,Zj];exact ho),Zw,Zw,hz,splice_inst]
theorem refsL_append(xs ys:List LV):Z9 (xs++ys)=Z9 xs++Z9 ys:=by
 induction xs with
 | nil=>rfl
 | cons x xs ih=>simp [Z9,ih]
theorem refsL_set{xs:List LV}{i:Nat}{z:LV}:∀ b∈Z9 (xs.set i z),b∈Z9 xs∨b∈Z5 z:=fun b hb=>by
 obtain ⟨x,hx,hb'⟩:=refsL_of hb
 rcases List.mem_or_eq_of_mem_set hx with h | e
 ·exact .inl (Y7 h b hb')
 ·exact .inr (e▸hb')
theorem lcells_any{v:LV}(h:(Z4 v).all LV.one=true):v≠.any:=fun e=>by subst e;simp [Z4,LV.one] at h
theorem ev_one{R:Inst}{le:LEnv}{x:Operand}(h:(Z4 (le.ev x)).all LV.one=true):ev (Ze R le) x=Z0 R true (le.ev x):=(ev_cases R le x).resolve_left (lcells_any h)
theorem lfill_sound{R:Inst}{le:LEnv}{place:Nat->Option (Nat × Nat)}:∀ (l:List (Nat × Operand)) (cells out:List LV),lfill place cells (V7 le l)=some out ->
  afill place (Z1 R true cells) (l.map fun p=>(p.1,ev (Ze R le) p.2))=some (Z1 R true out)
 | [],cells,out,h=>by simp [V7,lfill] at h;subst h;rfl
 | (i,x)::l,cells,out,h=>by
  simp only [V7,lfill] at h;simp only [List.map_cons,afill]
  split at h
  ·simp at h
  ·rename_i off size hp
   split at h <;> try (simp at h;done)
   rename_i hc;obtain ⟨h1,h2,h3⟩:=hc;simp only [hp];rw [ev_one h3,Zw,Zj,if_pos ⟨h1,by rw [h1,Zj];exact h2,Wp R h3⟩,<- splice_inst]
   exact lfill_sound l _ out h
theorem lfill_refs{le:LEnv}{n:Nat}(he:EWS n le){place:Nat->Option (Nat × Nat)}:∀ (l:List (Nat × Operand)) (cells out:List LV),lfill place cells (V7 le l)=some out->(∀ b∈Z9 cells,b<n)->∀ b∈Z9 out,b<n
 | [],cells,out,h,hc=>by simp [V7,lfill] at h;subst h;exact hc
 | (i,x)::l,cells,out,h,hc=>by
  simp only [V7,lfill] at h
  split at h
  ·simp at h
  ·split at h <;> try (simp at h;done)
   refine lfill_refs he l _ out h fun b hb=>?_
   simp only [Z7,refsL_append,List.mem_append] at hb
   rcases hb with (hb | hb) | hb
   ·exact hc b (refsL_sub (fun x hx=>List.mem_of_mem_take hx) b hb)
   ·exact ev_refs he x b (refs_lcells _ b hb)
   ·exact hc b (refsL_sub (fun x hx=>List.mem_of_mem_drop hx) b hb)
theorem lbuild_sound{P:Program}{R:Inst}{le:LEnv}{t:TypeId}{ps:Array (Nat × Operand)}{v:LV}{K:AV->Prop}(h:lbuild P le t ps=some v)(hk:K (Z0 R true v)):abuild P (Ze R le) t ps K:=by
 unfold lbuild at h
 split at h <;> try (simp at h;done)
 rename_i pl z hpl hz;obtain ⟨out,ho,rfl⟩:=Option.map_eq_some_iff.1 h;obtain ⟨zv,e1,e2,e3,e4,e5⟩:=zelem_cells R hz;unfold abuild;simp only [hpl,e1];have:=lfill_sound (R:=R) _ _ _ ho;rw [e2] at this;unfold parts;rw [this];simpa [Z0] using hk
theorem lbuild_refs{P:Program}{n:Nat}{le:LEnv}(he:EWS n le){t:TypeId}{ps:Array (Nat × Operand)}{v:LV}(h:lbuild P le t ps=some v):∀ b∈Z5 v,b<n:=by
 unfold lbuild at h
 split at h <;> try (simp at h;done)
 rename_i pl z hpl hz;obtain ⟨out,ho,rfl⟩:=Option.map_eq_some_iff.1 h;obtain ⟨zv,e1,e2,e3,e4,e5⟩:=zelem_cells ⟨id,id,fun _=>false⟩ hz
 simp only [Z5];exact lfill_refs he _ _ _ ho (by rw [e3];simp)
theorem oneAt_one{f:Bool}{c:LV}(h:Xq f c=true):c.one=true:=by
 unfold Xq at h
 split at h
 ·cases c <;> simp_all [LV.oneD,LV.one]
 ·exact h
theorem all_oneAt{f:Bool}{cs:List LV}(h:cs.all (Xq f)=true):cs.all LV.one=true:=by
 rw [List.all_eq_true] at h ⊢;exact fun c hc=>oneAt_one (h c hc)
theorem lrowSet_sound{R:Inst}{le:LEnv}{f:Bool}{k:Nat}:∀ (l:List (Nat × Operand)) (xs out:List LV),(∀ x∈xs,(Z4 x).length=k)->(∀ x∈xs,(Z4 x).all (Xq f)=true)->lrowSet f k xs (V7 le l)=some out ->
  afill (fun i=>some (i*k,k)) ((Z1 R true xs).flatMap cellsOf) (l.map fun p=>(p.1,ev (Ze R le) p.2))=some ((Z1 R true out).flatMap cellsOf)/\out.length=xs.length/\(∀ x∈out,(Z4 x).length=k)/\(∀ x∈out,(Z4 x).all (Xq f)=true)
 | [],xs,out,h1,h2,h=>by simp [V7,lrowSet] at h;subst h;exact ⟨rfl,rfl,h1,h2⟩
 | (i,x)::l,xs,out,h1,h2,h=>by
  simp only [V7,lrowSet] at h;simp only [List.map_cons,afill]
  split at h <;> try (simp at h;done)
  rename_i hc;obtain ⟨c1,c2,c3⟩:=hc;have hy:xs[i]? = some xs[i]:=List.getElem?_eq_getElem c1;have hcl:(Z4 xs[i]).length=k:=h1 _ (List.getElem_mem c1);have hsp:Z4 (le.ev x)=Z7 (Z4 xs[i]) 0 (Z4 (le.ev x)):=by
   simp [Z7];rw [c2,hcl];omega
  have hset:=flat_set R true h1 hy (o:=0) (cs:=Z4 (le.ev x)) (by rw [c2,hcl];omega) hsp
  obtain ⟨g1,g2,g3,g4⟩:=lrowSet_sound (R:=R) l (xs.set i (le.ev x)) out
   (fun y hy=>by rcases List.mem_or_eq_of_mem_set hy with h | rfl;exact h1 y h;exact c2)
   (fun y hy=>by rcases List.mem_or_eq_of_mem_set hy with h | rfl;exact h2 y h;exact c3) h
  refine ⟨?_,by rw [g2];simp,g3,g4⟩
  have c3':=all_oneAt c3;rw [ev_one c3',Zw,Zj,if_pos ⟨c2,by
   rw [X4 R true h1,c2]
   calc i*k+k=(i+1)*k:=by rw [Nat.add_mul,Nat.one_mul]
    _<=xs.length*k:=Nat.mul_le_mul_right _ c1,Wp R c3'⟩]
  rw [Nat.add_zero] at hset;rw [<- hset];exact g1
theorem lrowSet_refs{le:LEnv}{f:Bool}{n k:Nat}(he:EWS n le):∀ (l:List (Nat × Operand)) (xs out:List LV),lrowSet f k xs (V7 le l)=some out->(∀ b∈Z9 xs,b<n)->∀ b∈Z9 out,b<n
 | [],xs,out,h,hc=>by simp [V7,lrowSet] at h;subst h;exact hc
 | (i,x)::l,xs,out,h,hc=>by
  simp only [V7,lrowSet] at h
  split at h <;> try (simp at h;done)
  refine lrowSet_refs he l _ out h fun b hb=>?_
  rcases refsL_set b hb with hb | hb
  ·exact hc b hb
  ·exact ev_refs he x b hb
theorem lbuildSlice_sound{P:Program}{R:Inst}{st st':St}{s:Hp}{le:LEnv}{t:TypeId}{len:Nat}{ps:Array (Nat × Operand)}{v:LV}(hs:SRel P R st s)(he:EWS st.next le)(h:lbuildSlice P le st t len ps=some (v,st')):
  abuildSlice P (Ze R le) s t len ps (fun r t=>LPost P R st v st' r t):=by
 unfold lbuildSlice at h;unfold abuildSlice
 split at h <;> try (simp at h;done)
 rename_i el hel;simp only [hel]
 split at h <;> try (simp at h;done)
 rename_i ag k z hag hz
 split at h <;> try (simp at h;done)
 rename_i hc
 split at h <;> simp at h
 rename_i xs hx;obtain ⟨rfl,rfl⟩:=h
 obtain ⟨hk,hzk,hz1,hl,hb⟩:=hc;obtain ⟨zv,e1,e2,e3,e4,e5⟩:=zelem_cells R hz;obtain ⟨_,_,_,_,hzr⟩:=zelem_eq R hz;simp only [hag,e1];obtain ⟨g1,g2,g3,g4⟩:=lrowSet_sound (R:=R) _ _ _ (fun x hx=>by rw [(List.mem_replicate.1 hx).2];exact hzk) (fun x hx=>by rw [(List.mem_replicate.1 hx).2];exact hz1) hx
 have g5:=lrowSet_refs he _ _ _ hx (by rw [refsL_replicate hzr];simp)
 rw [flat_replicate,e2,<- bcells_eq (z:=zv) (n:=len) (k:=k) (by simp [Yr];rw [e5];exact hzk)] at g1
 refine ⟨hk,by rw [e5];exact hzk,hl,hb,?_⟩
 unfold parts;rw [g1];simp only [List.length_replicate] at g2;intro b hb';refine row_new hs el k len len (by omega) (by omega) ?_ ?_ g3 (fun hf x hx=>by have:=g4 x hx;rw [hf] at this;exact this) (fun _=>g5) b hb' _ (wk_rlv R _ xs)
 all_goals
  have:len<=len*k:=Nat.le_mul_of_pos_right _ hk
  first | (unfold maxLen;omega) | (rw [g2];unfold big;omega)
theorem oneAt_inst(R:Inst){f:Bool}{c:LV}(h:Xq f c=true):(Z0 R (!f) c).one=true:=by
 cases f
 ·exact one_inst R (oneAt_one h)
 ·simp only [Xq,if_true] at h
  simp only [Bool.not_true]
  cases c <;> simp only [LV.oneD] at h <;> (try simp at h) <;> simp only [Z0] <;> try rfl
  ·rename_i t y;rcases Yf t (Z0 R false y) with ⟨z,_,e⟩ | e <;> rw [e] <;> rfl
  ·rename_i k a c
   obtain ⟨rfl,rfl⟩:=h
   simp [Z1,Yg,W8,AV.one,Value.oneCell']
theorem rows_one(R:Inst){f:Bool}{ys:List LV}(h:∀ y∈ys,(Z4 y).all (Xq f)=true):((Z1 R (!f) ys).flatMap cellsOf).all AV.one=true:=by
 rw [flat_instL,List.all_flatMap,List.all_eq_true];intro y hy;rw [Zu,List.all_map,List.all_eq_true];exact fun z hz=>oneAt_inst R (List.all_eq_true.1 (h y hy) z hz)
theorem flat_ones'(R:Inst)(l:Bool):∀ (cs:List LV),cs.all LV.one=true->(Z1 R l cs).flatMap cellsOf=Z1 R l cs
 | [],_=>by simp [Z1]
 | c::cs,h=>by
  simp only [List.all_cons,Bool.and_eq_true] at h;have:Z4 c=[c]:=by cases c <;> simp_all [Z4,LV.one]
  simp only [Z1,List.flatMap_cons,Zw,this];rw [flat_ones' R l cs h.2];simp [Z1]
theorem lcells_one{c:LV}(h:c.one=true):Z4 c=[c]:=by cases c <;> simp_all [Z4,LV.one]
theorem CellsE.ones{P:Program}{R:Inst}{cs:List LV}{us:List AV}{t:Hp}(h:CellsE P R cs us t):cs.all LV.one=true->us=Z1 R true cs:=by
 induction h with
 | nil=>intro _;simp [Z1]
 | cons h k ih =>
  intro ho;simp only [List.all_cons,Bool.and_eq_true] at ho;simp only [Z1];rw [ih ho.2]
  cases h with
  | ownNil=>simp [LV.one] at ho
  | own=>simp [LV.one] at ho
  | omap=>simp [LV.one] at ho
  | other c hc=>rfl
theorem lelems_sound{P:Program}{R:Inst}{st:St}{s:Hp}{el k:Nat}{x:LV}{ys:List LV}(hs:SRel P R st s)(h:lelems P el k x st=some ys):
  ∃ news,srcOf k (Z0 R true x) s=some (ys.length,news)/\WkL news ((Z1 R (rlv P el) ys).flatMap cellsOf)/\news.all AV.one=true /\
   (∀ y∈ys,(Z4 y).length=k)/\(∀ y∈ys,(Z4 y).all (Xq (Y4 P el))=true)/\(Y4 P el=false->∀ b∈Z9 ys,b<st.next):=by
 unfold lelems at h
 split at h <;> try (simp at h;done)
 ·
  rename_i k' xs
  split at h <;> try (simp at h;done)
  rename_i hk;injection h with h;subst h
  obtain ⟨rfl,hok⟩:=hk;simp only [Yx,List.all_eq_true,Bool.and_eq_true,beq_iff_eq] at hok;have h1:∀ y∈Zi xs,(Z4 y).length=k':=fun y hy=>(hok y hy).1
  have h2:∀ y∈Zi xs,(Z4 y).all (Xq (Y4 P el))=true:=fun y hy=>by rw [List.all_eq_true];exact (hok y hy).2
  have e2:∀ l,Z1 R l (Zi xs)=Z1 R false xs:=fun l=>Xu R l xs
  refine ⟨(Z1 R false xs).flatMap cellsOf,?_,?_,?_,h1,h2,by rw [Xr];simp⟩
  ·simp only [Z0,srcOf,if_true]
   have hlen:(Z1 R false xs).length=(Zi xs).length:=by rw [<- e2 true,Zj]
   rw [hlen]
  ·rw [e2 (rlv P el)];exact WkL.refl _
  ·rw [<- e2 (!Y4 P el)];exact rows_one R h2
 ·injection h with h;subst h
  exact ⟨[],by simp [Z0,srcOf],by simp [Z1];exact .nil,rfl,by simp,by simp,by simp [Z9]⟩
 ·
  rename_i k' b i n c
  split at h <;> try (simp at h;done)
  rename_i hkk;subst hkk
  split at h <;> try (simp at h;done)
  rename_i e k'' xs hl
  split at h <;> try (simp at h;done)
  rename_i hc;injection h with h;subst h
  obtain ⟨rfl,rfl,hle,hokc⟩:=hc;have hlen:((xs.drop i).take n).length=n:=by simp;omega
  cases hs.row hl with
  | nil hz hx =>
   subst hx;simp at hle;obtain ⟨rfl,rfl⟩:=hle;refine ⟨[],by simp [Z0,Y0,hz,srcOf],by simp [Z1];exact .nil,rfl,by simp,by simp,by simp [Z9]⟩
  | row hz ok hm =>
   have g1:∀ y∈(xs.drop i).take n,(Z4 y).length=k'':=fun y hy=>ok.cells y (List.mem_of_mem_drop (List.mem_of_mem_take hy))
   have g2:∀ y∈(xs.drop i).take n,(Z4 y).all (Xq (Y4 P e))=true:=fun y hy=>by
    cases hf:Y4 P e
    ·rw [hf] at hokc
     simp only [Yx,Bool.false_or,List.all_eq_true,Bool.and_eq_true] at hokc;rw [List.all_eq_true];exact (hokc y hy).2
    ·exact ok.one hf y (List.mem_of_mem_drop (List.mem_of_mem_take hy))
   have hfl:=X4 R (rlv P e) ok.cells;have hcond:i*k''+n*k''<=((Z1 R (rlv P e) xs).flatMap cellsOf).length:=by
    rw [hfl,<- Nat.add_mul];exact Nat.mul_le_mul_right _ hle
   have heq:(((Z1 R (rlv P e) xs).flatMap cellsOf).drop (i*k'')).take (n*k'')=(Z1 R (rlv P e) ((xs.drop i).take n)).flatMap cellsOf:=by
    rw [flat_drop R _ ok.cells i (by omega),flat_take R _ (fun y hy=>ok.cells y (List.mem_of_mem_drop hy)) n (by simp;omega)]
   refine ⟨(Z1 R (rlv P e) ((xs.drop i).take n)).flatMap cellsOf,?_,WkL.refl _,rows_one R g2,g1,g2,?_⟩
   ·simp only [Z0,Y0,hz,Bool.false_and,Bool.false_eq_true,if_false,srcOf,Yy hs.nd hm]
    rw [if_pos hcond,heq,hlen]
   ·intro hf b hb
    exact hs.look_ws hl b (by simp only [Y1,hf];exact refsL_sub (fun y hy=>List.mem_of_mem_drop (List.mem_of_mem_take hy)) b hb)
 ·
  rename_i b o n c
  split at h <;> try (simp at h;done)
  rename_i hk;subst hk
  split at h <;> try (simp at h;done)
  rename_i e cs hl
  split at h <;> try (simp at h;done)
  rename_i hc;injection h with h;subst h
  obtain ⟨hle,hone⟩:=hc;obtain ⟨us,t,hce,hm⟩:=hs.box hl;have h1:=all_oneAt hone;have hlen:((cs.drop o).take n).length=n:=by simp;omega
  obtain ⟨t1,t2,e1,e2,e3⟩:=hce.split o;obtain ⟨t3,t4,e4,e5,e6⟩:=e2.split n;have e7:=e4.ones h1;refine ⟨Z1 R true ((cs.drop o).take n),?_,?_,Wp R h1,?_,?_,?_⟩
  ·simp only [Z0,srcOf,Yy hs.nd hm,Nat.mul_one]
   rw [if_pos (by rw [<- hce.length];exact hle),hlen,<- e7]
  ·rw [<- flat_ones' R true _ h1];exact wk_rlv R _ _
  ·intro y hy;rw [lcells_one (List.all_eq_true.1 h1 y hy)];rfl
  ·intro y hy;rw [lcells_one (List.all_eq_true.1 h1 y hy)];simpa using List.all_eq_true.1 hone y hy
  ·intro _ c hc'
   exact hs.look_ws hl c (by simp only [Y1];exact refsL_sub (fun y hy=>List.mem_of_mem_drop (List.mem_of_mem_take hy)) c hc')
theorem lenBig{n by_:Nat}(h:0<by_)(hb:n*by_<=140737488355328):n<=big:=by
 have:n<=n*by_:=Nat.le_mul_of_pos_right _ h;unfold big;omega
theorem n5w{P:Program}{el:TypeId}{ys:List LV}(h:∀ y∈ys,(Z4 y).all (Xq (Y4 P el))=true):Y4 P el=true->∀ y∈ys,(Z4 y).all LV.oneD=true:=fun hf y hy=>by
 have:=h y hy;rw [hf] at this;exact this
theorem WkL.take{us vs:List AV}(h:WkL us vs):∀ n,WkL (us.take n) (vs.take n):=by
 induction h with
 | nil=>intro n;simp;exact .nil
 | cons h k ih=>intro n;cases n with
  | zero=>simp;exact .nil
  | succ n=>simpa using .cons h (ih n)
theorem WkL.drop{us vs:List AV}(h:WkL us vs):∀ n,WkL (us.drop n) (vs.drop n):=by
 induction h with
 | nil=>intro n;simp;exact .nil
 | cons h k ih=>intro n;cases n with
  | zero=>simpa using .cons h k
  | succ n=>simpa using ih n
theorem WkL.splice{us vs cs ds:List AV}(h:WkL us vs)(k:WkL cs ds)(o:Nat):WkL (Go.splice us o cs) (Go.splice vs o ds):=by
 unfold Go.splice;rw [k.length];exact (h.take o).append (k.append (h.drop _))
theorem ones_len{k:Nat}{ys:List LV}(h:∀ y∈ys,(Z4 y).length=1):(ys.flatMap Z4).length=ys.length:=by
 induction ys with
 | nil=>rfl
 | cons y ys ih=>simp only [List.flatMap_cons,List.length_append,List.length_cons];rw [ih fun z hz=>h z (List.mem_cons_of_mem _ hz),h y List.mem_cons_self];omega
theorem flat_lcells(R:Inst)(l:Bool)(ys:List LV):(Z1 R l ys).flatMap cellsOf=Z1 R l (ys.flatMap Z4):=by
 rw [flat_instL]
 induction ys with
 | nil=>simp [Z1]
 | cons y ys ih=>simp only [List.flatMap_cons,instL_append,ih]
theorem seal_plain{c:LV}(h:c.plain=true):(Zs c).plain=true:=by cases c <;> simp_all [Zs,LV.plain]
theorem sealL_map:∀ xs:List LV,Zi xs=xs.map Zs
 | []=>rfl
 | x::xs=>by simp [Zi,sealL_map xs]
theorem lsplice_row(R:Inst)(l:Bool){xs ys:List LV}{i:Nat}(hx:∀ x∈xs,(Z4 x).length=1)(hy:∀ y∈ys,(Z4 y).length=1)(h:i+ys.length<=xs.length):
  (Z1 R l (Z7 xs i ys)).flatMap cellsOf=splice ((Z1 R l xs).flatMap cellsOf) i ((Z1 R l ys).flatMap cellsOf):=by
 unfold Z7 splice;have h1:=flat_take R l hx i (by omega)
 have h2:=flat_drop R l hx (i+ys.length) h;rw [Nat.mul_one] at h1 h2;have h3:=X4 R l hy;rw [Nat.mul_one] at h3;rw [X0,X0,h3,h1,h2,List.append_assoc]
theorem Yz{xs ys:List LV}{i:Nat}{x:LV}(h:x∈Z7 xs i ys):x∈xs∨x∈ys:=by
 unfold Z7 at h;simp only [List.mem_append] at h
 rcases h with (h | h) | h
 ·exact .inl (List.mem_of_mem_take h)
 ·exact .inr h
 ·exact .inl (List.mem_of_mem_drop h)
theorem Wd{xs ys:List LV}{i:Nat}(h:i+ys.length<=xs.length):(Z7 xs i ys).length=xs.length:=by
 unfold Z7;simp;omega
theorem HpWk.head{a:Nat}{o o':AObj}{t:Hp}(h:OWk o o'):HpWk ((a,o)::t) ((a,o')::t):=by
 refine ⟨fun p hp=>?_,fun hn=>by simpa [Hp.keys] using hn⟩
 rcases List.mem_cons.1 hp with rfl | hp
 ·exact ⟨o,List.mem_cons_self,h⟩
 ·exact ⟨p.2,List.mem_cons_of_mem _ hp,.refl _⟩
theorem head_keys{a:Nat}{o o':AObj}{t:Hp}(h:(Hp.keys ((a,o)::t)).Nodup):(Hp.keys ((a,o')::t)).Nodup:=by simpa [Hp.keys] using h
theorem row_turn{P:Program}{R:Inst}{st:St}{s:Hp}(hs:SRel P R st s){b e k:Nat}{xs xs':List LV}(hl:st.look b=some (.row e k xs))(hz:R.z b=false)(hok:RowOk (Y4 P e) k (R.κ b) xs')(hr:Y4 P e=false->∀ c∈Z9 xs',c<st.next)(us:List AV)(hus:WkL us ((Z1 R (rlv P e) xs').flatMap cellsOf))(v:LV)(r:AV)(hw:Wk r (Z0 R true v))(hv:∀ c∈Z5 v,c<st.next):
  LPost P R st v (st.set b (.row e k xs')) r (s.set (R.ρ b) (.cells e us (R.κ b*k))):=by
 obtain ⟨t1,t2,ho,hp,hn,hset,_⟩:=hs.open hl
 cases ho with
 | rowNil _ _ hz'=>rw [hz] at hz';simp at hz'
 | row _ _ _ hz' ok =>
  have hn':(Hp.keys ([(R.ρ b,AObj.cells e ((Z1 R (rlv P e) xs').flatMap cellsOf) (R.κ b*k))]++t2)).Nodup:=head_keys hn;obtain ⟨s',g1,g2⟩:=hset _ _ (ObjE.row e k xs' hz hok) hn' (fun c hc=>by
   simp only [Y1] at hc
   split at hc
   ·simp at hc
   ·rename_i hf;exact hr (by simpa using hf) c hc)
  refine ⟨R,s',Agree.refl _ _,Nat.le_refl _,hw,hv,?_,g1⟩;exact (HpWk.perm (set_perm hp hs.nd)).trans ((HpWk.head (.cells _ _ hus)).trans (HpWk.perm g2.symm))
theorem box_turn{P:Program}{R:Inst}{st:St}{s:Hp}(hs:SRel P R st s){b e:Nat}{cs:List LV}(hl:st.look b=some (.box e cs)){o:Nat}{ds:List LV}(hd:∀ c∈ds,c.plain=true)(hr:∀ c∈Z9 ds,c<st.next)(hle:o+ds.length<=cs.length)(v:LV)(r:AV)(hw:Wk r (Z0 R true v))(hv:∀ c∈Z5 v,c<st.next):
  ∃ us:List AV,(R.ρ b,AObj.cells e us us.length)∈s/\us.length=cs.length/\∀ ws,WkL ws (Z1 R true ds)->LPost P R st v (st.set b (.box e (Z7 cs o ds))) r (s.set (R.ρ b) (.cells e (splice us o ws) us.length)):=by
 obtain ⟨t1,t2,ho,hp,hn,hset,_⟩:=hs.open hl
 cases ho with
 | box _ _ us t hce =>
  refine ⟨us,hp.mem_iff.2 (by simp),hce.length.symm,fun ws hws=>?_⟩
  obtain ⟨ta,tb,h1,h2,rfl⟩:=hce.split o;obtain ⟨tc,td,h3,h4,rfl⟩:=h2.split ds.length;have hcells:CellsE P R (Z7 cs o ds) (splice us o (Z1 R true ds)) (ta++([]++td)):=by
   have:Z7 cs o ds=cs.take o++(ds++(cs.drop o).drop ds.length):=by simp [Z7,List.drop_drop]
   rw [this];have:splice us o (Z1 R true ds)=us.take o++(Z1 R true ds++(us.drop o).drop ds.length):=by simp [splice,Zj,List.drop_drop]
   rw [this];exact h1.append ((CellsE.plain P R hd).append h4)
  have hlen:(splice us o (Z1 R true ds)).length=us.length:=by
   rw [<- hce.length] at *;have:=hcells.length;rw [<- this,Wd hle]
  have hsub:(ta++([]++td)).Sublist (ta++(tc++td)):=by simp
  have hn':(Hp.keys (((R.ρ b,AObj.cells e (splice us o (Z1 R true ds)) us.length)::(ta++([]++td)))++t2)).Nodup:=by
   refine List.Nodup.sublist ?_ hn;simp only [hpk_append];refine List.Sublist.append ?_ (List.Sublist.refl _);simp only [Hp.keys,List.map_cons];exact (hsub.map _).cons_cons _
  have hbox:=ObjE.box (P:=P) (R:=R) (b:=b) e _ _ _ hcells;rw [hlen] at hbox;obtain ⟨s',g1,g2⟩:=hset _ _ hbox hn' (fun c hc=>by
   simp only [Y1] at hc;obtain ⟨x,hx,hc⟩:=refsL_of hc
   rcases Yz hx with hx | hx
   ·exact hs.look_ws hl c (by simp only [Y1];exact Y7 hx c hc)
   ·exact hr c (Y7 hx c hc))
  refine ⟨R,s',Agree.refl _ _,Nat.le_refl _,hw,hv,?_,g1⟩;refine (HpWk.perm (set_perm hp hs.nd)).trans ((HpWk.head (.cells _ _ ((WkL.refl us).splice hws o))).trans ((HpWk.sub ?_).trans (HpWk.perm g2.symm)));exact List.Sublist.append (hsub.cons_cons _) (List.Sublist.refl t2)
theorem lcopySrc_sound{P:Program}{R:Inst}{st:St}{s:Hp}{el:Nat}{x:LV}{ys:List LV}(hs:SRel P R st s)(h:lcopySrc P el x st=some ys):
  ∃ news,acopySrc (Z0 R true x) s=some (ys.length,news)/\WkL news ((Z1 R (rlv P el) ys).flatMap cellsOf)/\news.all AV.one=true /\
   (∀ y∈ys,(Z4 y).length=1)/\(∀ y∈ys,(Z4 y).all (Xq (Y4 P el))=true)/\(Y4 P el=false->∀ b∈Z9 ys,b<st.next):=by
 unfold lcopySrc at h
 split at h
 ·rename_i y
  split at h <;> simp at h
  rename_i hf;subst h;have hb:∀ c∈bytesOf y,∃ b:UInt8,c=.int .u8 (b.toNat:Int):=fun c hc=>by
   unfold bytesOf at hc;obtain ⟨b,_,e⟩:=List.mem_map.1 hc;exact ⟨b,e.symm⟩
  have hst:strAV ⟨y.toArray⟩=Z1 R (rlv P el) (bytesOf y):=by
   rw [Zu];unfold strAV bytesOf;simp [Z0]
  have hcell:(Z1 R (rlv P el) (bytesOf y)).flatMap cellsOf=Z1 R (rlv P el) (bytesOf y):=flat_ones' R _ _ (by
   rw [List.all_eq_true];intro c hc;obtain ⟨b,rfl⟩:=hb c hc;rfl)
  refine ⟨strAV ⟨y.toArray⟩,?_,?_,?_,?_,?_,?_⟩
  ·simp only [Z0,acopySrc,size_bytes]
   simp [bytesOf]
  ·rw [hst,hcell];exact WkL.refl _
  ·unfold strAV;rw [List.all_map,List.all_eq_true];intro c _;rfl
  ·intro c hc;obtain ⟨b,rfl⟩:=hb c hc;rfl
  ·intro c hc;obtain ⟨b,rfl⟩:=hb c hc;simp [Z4,Xq,LV.oneD,LV.one]
  ·intro h;rw [hf] at h;simp at h
 ·rename_i hns
  obtain ⟨news,n1,n2⟩:=lelems_sound hs h;refine ⟨news,?_,n2⟩;unfold acopySrc
  split
  ·rename_i y e
   rw [e] at n1;simp [srcOf] at n1
  ·exact n1
theorem lcopy_sound{P:Program}{R:Inst}{st st':St}{s:Hp}{t:TypeId}{x y v:LV}(hs:SRel P R st s)(h:lcopy P t x y st=some (v,st')):
  acopy P t (Z0 R true x) (Z0 R true y) s (fun r t=>LPost P R st v st' r t):=by
 unfold lcopy at h;unfold acopy
 split at h <;> try (simp at h;done)
 rename_i el hel;simp only [hel]
 split at h <;> try (simp at h;done)
 rename_i ag ys hag hys;obtain ⟨news,n1,n2,n3,n4,n5,n6⟩:=lcopySrc_sound hs hys;simp only [hag,n1];refine ⟨n3,?_⟩;have hnlen:news.length=ys.length:=by have:=n2.length;rw [X4 R _ n4] at this;omega
 split at h <;> try (simp at h;done)
 ·simp at h
  obtain ⟨rfl,rfl⟩:=h
  simp only [Z0];exact ⟨trivial,LPost.pure hs (by simp only [Z0];exact Wk.refl _) (by simp [Z5])⟩
 ·rename_i b i n c
  split at h <;> try (simp at h;done)
  rename_i e k xs hl
  split at h <;> try (simp at h;done)
  rename_i hc;simp at h;obtain ⟨rfl,rfl⟩:=h
  obtain ⟨rfl,rfl,hle⟩:=hc
  cases hs.row hl with
  | nil hz hx =>
   subst hx;simp only [List.length_nil,Nat.le_zero_eq,Nat.add_eq_zero_iff] at hle;obtain ⟨rfl,rfl⟩:=hle;have hmin:min ys.length 0=0:=Nat.min_zero _;have hsame:Z7 [] 0 (ys.take (min ys.length 0))=[]:=by rw [hmin];simp [Z7]
   rw [hsame,hmin];obtain ⟨t1,t2,ho,hp,hn,hset,_⟩:=hs.open hl
   cases ho with
   | row _ _ _ hz' ok=>rw [hz] at hz';simp at hz'
   | rowNil _ _ hz' =>
    obtain ⟨s',g1,g2⟩:=hset _ _ (ObjE.rowNil e 1 hz) (by simpa using hn) (by simp [Y1,Z9])
    simp only [Z0,Y0,hz,beq_self_eq_true,Bool.and_self,if_true];exact ⟨trivial,R,s',Agree.refl _ _,Nat.le_refl _,by simp only [Z0];exact Wk.refl _,by simp [Z5],HpWk.perm (hp.trans g2.symm),g1⟩
  | row hz ok hm =>
   simp only [Z0,Y0,hz,Bool.false_and,Bool.false_eq_true,if_false,Yy hs.nd hm,Nat.mul_one];have g4:∀ y∈ys.take (min ys.length n),(Z4 y).length=1:=fun y hy=>n4 y (List.mem_of_mem_take hy)
   have hyl:(ys.take (min ys.length n)).length=min ys.length n:=by simp
   have hle':i+(ys.take (min ys.length n)).length<=xs.length:=by omega
   have hfl:=X4 R (rlv P e) ok.cells;rw [Nat.mul_one] at hfl;refine ⟨by rw [hfl];omega,?_⟩
   have key:=fun us hus=>row_turn hs hl hz (xs':=Z7 xs i (ys.take (min ys.length n))) ⟨fun x hx=>(Yz hx).elim (ok.cells x) (g4 x),fun hf x hx=>(Yz hx).elim (ok.one hf x) fun hx=>n5w n5 hf x (List.mem_of_mem_take hx),by rw [Wd hle'];exact ok.le,ok.cap,by rw [Wd hle'];exact ok.big⟩ (fun hf c hc'=>by
     obtain ⟨x,hx,hc'⟩:=refsL_of hc'
     rcases Yz hx with hx | hx
     ·exact hs.look_ws hl c (by simp only [Y1,hf];exact Y7 hx c hc')
     ·exact n6 hf c (Y7 (List.mem_of_mem_take hx) c hc')) us hus (.int .i64 (min ys.length n:Nat)) (.v (.int .i64 (min ys.length n:Nat))) (by simp only [Z0];exact Wk.refl _) (by simp [Z5])
   have hrt:=key (splice ((Z1 R (rlv P e) xs).flatMap cellsOf) i (news.take (min ys.length n))) (by
    rw [lsplice_row R _ ok.cells g4 hle'];refine (WkL.refl _).splice ?_ i;have:=flat_take R (rlv P e) n4 (min ys.length n) (Nat.min_le_left _ _);rw [Nat.mul_one] at this;rw [<- this];exact n2.take _)
   rw [Nat.mul_one] at hrt;exact hrt
 ·rename_i b o n c
  split at h <;> try (simp at h;done)
  rename_i e cs hl
  split at h <;> try (simp at h;done)
  rename_i hle;simp at h;obtain ⟨rfl,rfl⟩:=h
  have g4:∀ y∈ys.take (min ys.length n),(Z4 y).length=1:=fun y hy=>n4 y (List.mem_of_mem_take hy)
  have hyl:(Zi ((ys.take (min ys.length n)).flatMap Z4)).length=min ys.length n:=by
   rw [sealL_map,List.length_map,ones_len (k:=1) g4];simp
  obtain ⟨us,hm,hul,hpost⟩:=box_turn hs hl (o:=o) (ds:=Zi ((ys.take (min ys.length n)).flatMap Z4)) (fun c hc'=>by
    rw [sealL_map] at hc';obtain ⟨d,hd,rfl⟩:=List.mem_map.1 hc';obtain ⟨y,hy,hd⟩:=List.mem_flatMap.1 hd;exact seal_plain (one_plain (oneAt_one (List.all_eq_true.1 (n5 y (List.mem_of_mem_take hy)) d hd))))
   (by rw [Xr];simp) (by rw [hyl];exact hle) (.int .i64 (min ys.length n:Nat)) (.v (.int .i64 (min ys.length n:Nat))) (by simp only [Z0];exact Wk.refl _) (by simp [Z5])
  simp only [Z0,Yy hs.nd hm];refine ⟨by rw [hul];exact hle,hpost _ ?_⟩
  rw [Xu,<- flat_lcells];have:=flat_take R (rlv P el) n4 (min ys.length n) (Nat.min_le_left _ _);rw [Nat.mul_one] at this;have h2:=n2.take (min ys.length n);rw [this] at h2;refine h2.trans ?_
  cases rlv P el
  ·exact WkL.refl _
  ·exact wk_rlv R false _
theorem lappend_sound{P:Program}{R:Inst}{st st':St}{s:Hp}{t:TypeId}{x y v:LV}(hs:SRel P R st s)(h:lappend P t x y st=some (v,st')):
  aappend P t (Z0 R true x) (Z0 R true y) s (fun r t=>LPost P R st v st' r t):=by
 unfold lappend at h;unfold aappend
 split at h <;> try (simp at h;done)
 rename_i el hel;simp only [hel]
 split at h <;> try (simp at h;done)
 rename_i ag k by_ z hag hby hz
 split at h <;> try (simp at h;done)
 rename_i hc;obtain ⟨hk,hby0,hzk⟩:=hc
 split at h <;> try (simp at h;done)
 rename_i ys hys;obtain ⟨zv,e1,e2,e3,e4,e5⟩:=zelem_cells R hz;obtain ⟨news,n1,n2,n3,n4,n5,n6⟩:=lelems_sound hs hys;simp only [hag,hby,e1,n1];refine ⟨hk,hby0,by rw [e5];exact hzk,n3,?_⟩
 have nil_case:∀ v st',some (LV.sl k st.next 0 ys.length none,st.add (.row el k ys))=some (v,st')->ys.length*by_<=140737488355328 ->
   ys.length*by_<=140737488355328/\(ys.length=0->LPost P R st v st' (.v (.slice none 0 0)) s) /\
   (ys.length≠0->∀ b cap,b∉s.keys->ys.length<=cap->cap<=maxLen->LPost P R st v st' (.v (.slice (some ⟨b,0,none⟩) ys.length cap)) ((b,.cells el news (cap*k))::s)):=by
  intro v st' he hbound;simp at he;obtain ⟨rfl,rfl⟩:=he;refine ⟨hbound,fun h0=>?_,fun h0 b cap hb hcap hmax=>row_new hs el k ys.length cap (Nat.le_refl _) hcap hmax (lenBig hby0 hbound) n4 (n5w n5) n6 b hb news n2⟩
  have hnil:ys=[]:=List.length_eq_zero_iff.1 h0;subst hnil;have ha:=Wn R st.next 0 0 true;have hx:=ext_self R st.next 0 0 true;refine ⟨R.ext st.next 0 0 true,s,ha,Nat.le_succ _,?_,?_,HpWk.refl _,?_⟩
  ·simp only [Z0,Y0,hx.2.2,List.length_nil,beq_self_eq_true,Bool.and_self,if_true];exact Wk.refl _
  ·intro c hc;simp [Z5] at hc;subst hc;simp [St.add]
  ·have:=hs.add _ ha (.row el k []) [] (.rowNil el k hx.2.2) (by simpa using hs.nd) (by simp [Y1,Z9])
   simpa using this
 split at h <;> try (simp at h;done)
 ·
  split at h <;> try (simp at h;done)
  rename_i hb;simp only [Z0];exact nil_case v st' h hb
 ·rename_i k' b n
  split at h <;> try (simp at h;done)
  rename_i e' k'' xs hl
  split at h
  case isFalse hA =>
   split at h <;> try (simp at h;done)
   rename_i hc;obtain ⟨rfl,rfl,rfl,hfit,hbound⟩:=hc;obtain ⟨t1,t2,ho,hp,hn,_,_⟩:=hs.open hl
   cases ho with
   | rowNil _ _ hz' =>
    simp only [List.length_nil,Nat.le_zero] at hfit hA;exact absurd ⟨trivial,trivial,trivial,by omega,hbound⟩ hA
   | row _ _ _ hz' ok =>
    simp at h;obtain ⟨rfl,rfl⟩:=h
    have hm:(R.ρ b,AObj.cells e' ((Z1 R (rlv P e') xs).flatMap cellsOf) (R.κ b*k''))∈s:=hp.mem_iff.2 (by simp)
    have hlen:=X4 R (rlv P e') ok.cells;have hnl:news.length=ys.length*k'':=by rw [n2.length,X4 R _ n4]
    simp only [Z0,Y0,hz',Bool.false_and,Bool.false_eq_true,if_false,Nat.zero_mul,Yy hs.nd hm,Option.getD_none,Nat.sub_zero];refine ⟨trivial,Nat.le_trans (by omega) ok.le,ok.cap,trivial,hbound,.inr ⟨by rw [hlen];exact Nat.mul_le_mul_right _ hfit,?_⟩⟩
    have hsp:WkL (splice ((Z1 R (rlv P e') xs).flatMap cellsOf) (n*k'') news) ((Z1 R (rlv P e') (Z7 xs n ys)).flatMap cellsOf):=by
     have e1:(Z1 R (rlv P e') (Z7 xs n ys)).flatMap cellsOf=splice ((Z1 R (rlv P e') xs).flatMap cellsOf) (n*k'') ((Z1 R (rlv P e') ys).flatMap cellsOf):=by
      unfold Z7 splice;rw [X0,X0,flat_take R _ ok.cells n (by omega),X4 R _ n4,<- Nat.add_mul,flat_drop R _ ok.cells (n+ys.length) hfit,List.append_assoc]
     rw [e1];exact (WkL.refl _).splice n2 _
    have hsl:=Wd (xs:=xs) (ys:=ys) hfit;refine row_turn hs hl hz' ⟨fun x hx=>(Yz hx).elim (ok.cells x) (n4 x),fun hf x hx=>(Yz hx).elim (ok.one hf x) (fun hx=>by have:=n5 x hx;rw [hf] at this;exact this),by rw [hsl];exact ok.le,ok.cap,by rw [hsl];exact ok.big⟩
     (fun hf c hc=>by
      obtain ⟨x,hx,hc⟩:=refsL_of hc
      rcases Yz hx with hx | hx
      ·exact hs.look_ws hl c (by simp only [Y1,hf];exact Y7 hx c hc)
      ·exact n6 hf c (Y7 hx c hc)) _ hsp _ _ ?_ ?_
    ·simp only [Z0,Y0,hz',Bool.false_and,Bool.false_eq_true,if_false,Nat.zero_mul,Option.getD_none,Nat.sub_zero];exact Wk.refl _
    ·intro c hc;simp [Z5] at hc;subst hc;exact hs.look_lt hl
  rename_i hc;obtain ⟨rfl,rfl,rfl,rfl,hbound⟩:=hc;obtain ⟨t1,t2,ho,hp,hn,_,⟨s',hd,rfl⟩⟩:=hs.open hl
  cases ho with
  | rowNil _ _ hz' =>
   simp only [List.length_nil,Nat.zero_add,List.nil_append] at h hbound;simp only [Z0,Y0,hz',List.length_nil,beq_self_eq_true,Bool.and_self,if_true];have hd':SRel P R (st.del b) s':=hd;simp only [List.nil_append] at hp;refine ⟨hbound,fun h0=>?_,fun h0 b' cap hb hcap hmax=>?_⟩
   ·have hnil:ys=[]:=List.length_eq_zero_iff.1 h0
    subst hnil;simp at h;obtain ⟨rfl,rfl⟩:=h
    have ha:=Wn R st.next 0 0 true;have hx:=ext_self R st.next 0 0 true;refine ⟨R.ext st.next 0 0 true,s',ha,Nat.le_succ _,?_,?_,HpWk.perm hp,?_⟩
    ·simp only [Z0,Y0,hx.2.2,beq_self_eq_true,Bool.and_self,if_true];exact Wk.refl _
    ·intro c hc;simp [Z5] at hc;subst hc;simp [St.add,St.del]
    ·have:=hd'.add (R.ext st.next 0 0 true) ha (.row e' k'' []) [] (.rowNil e' k'' hx.2.2) (by simpa using hd'.nd) (by simp [Y1,Z9])
     simpa using this
   ·simp at h
    obtain ⟨rfl,rfl⟩:=h
    obtain ⟨R',s'',g1,g2,g3,g4,g5,g6⟩:=row_new hd' e' k'' ys.length cap (Nat.le_refl _) hcap hmax (lenBig hby0 hbound) n4 (n5w n5) n6 b' (fun hm=>hb ((Wi hp).mem_iff.2 hm)) news n2
    refine ⟨R',s'',g1,g2,g3,g4,HpWk.trans (HpWk.perm (hp.cons _)) g5,g6⟩
  | row _ _ _ hz' ok =>
   simp at h;obtain ⟨rfl,rfl⟩:=h
   have hm:(R.ρ b,AObj.cells e' ((Z1 R (rlv P e') xs).flatMap cellsOf) (R.κ b*k''))∈s:=hp.mem_iff.2 (by simp)
   simp only [Z0,Y0,hz',Bool.false_and,Bool.false_eq_true,if_false,Nat.zero_mul,Yy hs.nd hm,Option.getD_none,Nat.sub_zero];refine ⟨trivial,ok.le,ok.cap,trivial,hbound,.inl ⟨X4 R _ ok.cells,fun b' cap hb hcap hmax=>?_⟩⟩
   have hdel:(s.del (R.ρ b)).Perm s':=del_perm hp hs.nd;have:=row_new hd e' k'' (xs:=xs++ys) (xs.length+ys.length) cap (by simp) (by simpa using hcap) hmax (by rw [List.length_append];exact lenBig hby0 hbound)
    (fun x hx=>(List.mem_append.1 hx).elim (ok.cells x) (n4 x)) (fun hf x hx=>(List.mem_append.1 hx).elim (ok.one hf x) (fun hx=>by have:=n5 x hx;rw [hf] at this;exact this))
    (fun hf c hc=>by
     rw [refsL_append,List.mem_append] at hc;exact hc.elim (fun hc=>hs.look_ws hl c (by simp only [Y1,hf];exact hc)) (n6 hf c))
    b' (fun hm'=>hb ((Wi hdel).mem_iff.2 hm')) ((Z1 R (rlv P e') xs).flatMap cellsOf++news) (by rw [X0];exact (WkL.refl _).append n2)
   obtain ⟨R',s'',g1,g2,g3,g4,g5,g6⟩:=this;exact ⟨R',s'',g1,g2,g3,g4,HpWk.trans (HpWk.perm (hdel.cons _)) g5,g6⟩
end Go.Mac
