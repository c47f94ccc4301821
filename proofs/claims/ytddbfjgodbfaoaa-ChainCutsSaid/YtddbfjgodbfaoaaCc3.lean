/-
 ChainCuts holds for every input: behind any crash there are the records ahead of the cut, and what was appended behind it; no condition.
-/
import Derived.Test.YtddbfjgodbfaoaaCc2
import Derived.ChangeArms
import Derived.ProofKit
import Derived.OpenShut
import Derived.SizedLaws
import Derived.Carry
import Derived.ReadAgain
import Derived.JoinedOf
import Derived.Handed
set_option linter.unusedVariables false
set_option linter.unusedSimpArgs false
namespace Go.Mac
open Go Go.Eng
theorem look_set{st:St}{b:Nat}{o o':LObj}(h:st.look b=some o):(st.set b o').look b=some o':=by
 have:∀ l:List (Nat × LObj),Yh l b=some o->Yh (oset l b o') b=some o':=by
  intro l
  induction l with
  | nil=>intro h;simp [Yh] at h
  | cons p l ih =>
   obtain ⟨k,x⟩:=p
   intro h;unfold oset;unfold Yh at h
   by_cases hk:k=b
   ·rw [if_pos hk];unfold Yh;rw [if_pos hk]
   ·rw [if_neg hk] at h ⊢;unfold Yh;rw [if_neg hk];exact ih h
 exact this _ h
theorem look_add{st:St}{b:Nat}{o:LObj}(hb:b<st.next):(st.add o).look b=st.look b:=by
 unfold St.look St.add;simp only [Yh];rw [if_neg (by omega)]
theorem Ents.put{P:Program}{R:Inst}{b:Nat}{o o':LObj}{t':Hp}(ho:ObjE P R b o' t'):∀ {l:List (Nat × LObj)} {t2:Hp},Ents P R (Yo l b) t2->Yh l b=some o ->
  ∃ s',Ents P R (oset l b o') s'/\s'.Perm (t'++t2)
 | [],_,_,hl=>by simp [Yh] at hl
 | (k,x)::l,t2,h,hl=>by
  unfold Yh at hl;unfold Yo at h;unfold oset
  by_cases hk:k=b
  ·rw [if_pos hk] at h ⊢
   subst hk;exact ⟨_,.cons ho h,.refl _⟩
  ·rw [if_neg hk] at hl h ⊢
   cases h with
   | cons h1 h2 =>
    rename_i t s;obtain ⟨s',g1,g2⟩:=Ents.put ho h2 hl;refine ⟨_,.cons h1 g1,?_⟩;exact ((List.Perm.append_left t g2).trans (by
     rw [<- List.append_assoc,<- List.append_assoc];exact List.Perm.append_right s List.perm_append_comm))
theorem SRel.focus{P:Program}{R:Inst}{st:St}{s:Hp}(h:SRel P R st s){b:Nat}{o:LObj}(hl:st.look b=some o):
  ∃ t1 t2,ObjE P R b o t1/\Ents P R (Yo st.objs b) t2/\s.Perm (t1++t2):=by
 obtain ⟨t1,t2,h1,h2,h3,_⟩:=h.ents.focus hl;exact ⟨t1,t2,h1,h2,h3⟩
theorem SRel.splitNew{P:Program}{R R':Inst}{st:St}{s:Hp}(h:SRel P R st s)(ha:Agree st.next R R'){b:Nat}{o o' on:LObj}(hl:st.look b=some o){t1 t2 t1' tn:Hp}(h2:Ents P R (Yo st.objs b) t2)(hp:s.Perm (t1++t2))(ho:ObjE P R' b o' t1')(hn:ObjE P R' st.next on tn)(hq:(tn++t1').Perm t1)(hr:∀ r∈Y1 P o',r<st.next+1)(hr':∀ r∈Y1 P on,r<st.next+1):
  ∃ s',SRel P R' ((st.set b o').add on) s'/\s.Perm s':=by
 have hsub:∀ p∈Yo st.objs b,p∈st.objs:=fun p hp=>(Xj _ _).subset hp
 have h2':Ents P R' (Yo st.objs b) t2:=h2.same fun p hp=>⟨ha _ (h.lt p (hsub p hp)),fun r hr=>ha _ (h.ws p (hsub p hp) r hr)⟩
 obtain ⟨s1,g1,g2⟩:=Ents.put ho h2' hl;have hperm:s.Perm (tn++s1):=by
  refine hp.trans ((List.Perm.append_right t2 hq.symm).trans ?_);rw [List.append_assoc];exact List.Perm.append_left tn g2.symm
 refine ⟨tn++s1,⟨.cons hn g1,(Wi hperm).nodup_iff.1 h.nd,?_,fun p hp=>?_,fun p hp r hr1=>?_⟩,hperm⟩
 ·simp only [St.add,St.set,List.map_cons,List.nodup_cons,oset_keys]
  refine ⟨fun hm=>?_,h.ok⟩
  obtain ⟨p,hp,e⟩:=List.mem_map.1 hm;have:=h.lt p hp;omega
 ·simp only [St.add,St.set] at hp ⊢
  rcases List.mem_cons.1 hp with rfl | hp
  ·exact Nat.lt_succ_self _
  ·rcases oset_mem hp with rfl | hp
   ·exact Nat.lt_succ_of_lt (h.look_lt hl)
   ·exact Nat.lt_succ_of_lt (h.lt p hp)
 ·simp only [St.add,St.set] at hp ⊢
  rcases List.mem_cons.1 hp with rfl | hp
  ·exact hr' r hr1
  ·rcases oset_mem hp with rfl | hp
   ·exact hr r hr1
   ·exact Nat.lt_succ_of_lt (h.ws p hp r hr1)
theorem set_same{α:Type}{l:List α}{j:Nat}{x:α}(h:l[j]? = some x):l.set j x=l:=by
 apply List.ext_getElem?;intro i
 by_cases hij:j=i
 ·subst hij
  obtain ⟨hj,_⟩:=List.getElem?_eq_some_iff.1 h;rw [List.getElem?_set_self hj,h]
 ·rw [List.getElem?_set_ne hij]
theorem refs_set_cell{cs:List LV}{j:Nat}{c:LV}{n:Nat}(h:∀ r∈Z9 cs,r<n)(hc:∀ r∈Z5 c,r<n+1):∀ r∈Z9 (cs.set j c),r<n+1:=fun r hr=>by
 rcases refsL_set r hr with hr | hr
 ·exact Nat.lt_succ_of_lt (h r hr)
 ·exact hc r hr
theorem openCell_sound{P:Program}{R:Inst}{st st1:St}{s:Hp}{b e j:Nat}{cs:List LV}{us:List AV}{c:LV}(hs:SRel P R st s)(hl:st.look b=some (.box e cs))(hm:(R.ρ b,AObj.cells e us us.length)∈s)(h:openCell st b e cs j=some (c,st1)):
  ∃ u R' s' cs1,us[j]? = some u/\Agree st.next R R'/\st.next<=st1.next/\Wk u (Z0 R' true c)/\(∀ d∈Z5 c,d<st1.next)/\s.Perm s'/\SRel P R' st1 s'/\st1.look b=some (.box e cs1):=by
 obtain ⟨t1,t2,ho,h2,hp⟩:=hs.focus hl;have hlt:=hs.look_lt hl;have hws:∀ r∈Z9 cs,r<st.next:=fun r hr=>hs.look_ws hl r (by simpa [Y1] using hr)
 cases ho with
 | box _ _ us' t hce =>
  have hus:us'=us:=by
   have h1:=Yy hs.nd hm;have h2:=Yy hs.nd (hp.mem_iff.2 (by simp:(R.ρ b,AObj.cells e us' us'.length)∈_))
   rw [h1] at h2;simp at h2;exact h2.1.symm
  subst hus;have mk:∀ {u:AV} {tc ta tb:Hp},us'[j]? = some u->t=ta++tc++tb->(∀ R' c' u' t1',(∀ r∈Z9 cs,Same R R' r)->CellE P R' c' u' t1'->CellsE P R' (cs.set j c') (us'.set j u') (ta++t1'++tb)) ->
    ∀ (R':Inst) (ha:Agree st.next R R') (c1:LV) (tc' tn:Hp) (on:LObj),CellE P R' c1 u tc'->ObjE P R' st.next on tn->(tn++tc').Perm tc->(∀ r∈Z5 c1,r<st.next+1)->(∀ r∈Y1 P on,r<st.next+1) ->
    ∃ s',SRel P R' ((st.set b (.box e (cs.set j c1))).add on) s'/\s.Perm s':=by
   intro u tc ta tb h1 ht h4 R' ha c1 tc' tn on hc1 hon hpm hr1 hr2;have hbox:=ObjE.box (P:=P) (R:=R') (b:=b) e _ _ _ (h4 R' c1 u tc' (fun r hr=>ha r (hws r hr)) hc1)
   rw [set_same h1,(ha b hlt).1] at hbox;refine hs.splitNew ha hl h2 hp hbox hon ?_ (refs_set_cell hws hr1) hr2;subst ht;rw [List.append_assoc,List.append_assoc];refine List.perm_middle.trans (List.Perm.cons _ ?_);have:(tn++(ta++(tc'++tb))).Perm (ta++((tn++tc')++tb)):=by
    rw [List.append_assoc tn];exact List.perm_append_comm_assoc tn ta (tc'++tb)
   exact this.trans (List.Perm.append_left ta (List.Perm.append_right tb hpm))
  have hlook:∀ c1 on,((st.set b (.box e (cs.set j c1))).add on).look b=some (.box e (cs.set j c1)):=fun c1 on=>by
   rw [look_add (by simpa [St.set] using hlt)];exact look_set hl
  unfold openCell at h
  split at h <;> try (simp at h;done)
  ·
   rename_i e' k xs hj;simp at h;obtain ⟨rfl,rfl⟩:=h
   obtain ⟨u,tc,ta,tb,h1,hc,ht,h4⟩:=hce.get j _ hj
   cases hc with
   | ownNil _ _ =>
    have ha:=Wn R st.next 0 0 true;have hx:=ext_self R st.next 0 0 true;have hi:Z0 (R.ext st.next 0 0 true) true (.sl k st.next 0 0 none)=.v (.slice none 0 0):=by
     simp only [Z0,Y0,hx.2.2,beq_self_eq_true,Bool.and_self,if_true]
    obtain ⟨s',g1,g2⟩:=mk h1 ht h4 _ ha (.sl k st.next 0 0 none) [] [] (.row e' k []) (by rw [<- hi];exact .other _ rfl) (.rowNil e' k hx.2.2) (.refl _) (by simp [Z5]) (by simp [Y1,Z9])
    exact ⟨_,_,s',_,h1,ha,Nat.le_succ _,by rw [List.length_nil,hi];exact Wk.refl _,by intro d hd;simp [Z5] at hd;subst hd;simp [St.add,St.set],g2,g1,hlook _ _⟩
   | own _ _ _ q cap hf hok =>
    have ha:=Wn R st.next q cap false;have hx:=ext_self R st.next q cap false;have hi:Z0 (R.ext st.next q cap false) true (.sl k st.next 0 xs.length none)=.v (.slice (some ⟨q,0,none⟩) xs.length cap):=by
     simp only [Z0,Y0,hx.1,hx.2.1,hx.2.2,Bool.false_and,Bool.false_eq_true,if_false,Nat.zero_mul,Option.getD_none,Nat.sub_zero]
    have hrow:=ObjE.row (P:=P) (R:=R.ext st.next q cap false) (b:=st.next) e' k xs hx.2.2 (by rw [hx.2.1];exact hok)
    have hcont:Z1 (R.ext st.next q cap false) (rlv P e') xs=Z1 R false xs:=by
     rcases hf with hf | rfl
     ·simp only [rlv,hf,Bool.not_true];exact Ye R _ xs
     ·simp [Z1]
    rw [hx.1,hx.2.1,hcont] at hrow;obtain ⟨s',g1,g2⟩:=mk h1 ht h4 _ ha (.sl k st.next 0 xs.length none) [] _ (.row e' k xs) (by rw [<- hi];exact .other _ rfl) hrow (by simp) (by simp [Z5]) (by
     rcases hf with hf | rfl
     ·simp [Y1,hf]
     ·simp [Y1,Z9])
    exact ⟨_,_,s',_,h1,ha,Nat.le_succ _,by rw [hi];exact Wk.refl _,by intro d hd;simp [Z5] at hd;subst hd;simp [St.add,St.set],g2,g1,hlook _ _⟩
   | other _ hpl=>simp [LV.plain] at hpl
  ·rename_i k ks vs hj
   simp at h;obtain ⟨rfl,rfl⟩:=h
   obtain ⟨u,tc,ta,tb,h1,hc,ht,h4⟩:=hce.get j _ hj
   cases hc with
   | omap _ _ _ q es' hmo =>
    have ha:=Wn R st.next q 0 false;have hx:=ext_self R st.next q 0 false;have hi:Z0 (R.ext st.next q 0 false) true (.map st.next)=.v (.map (some q)):=by simp only [Z0,hx.1]
    have hmo':MapOk (R.ext st.next q 0 false) (ks.zip vs) es':=by
     refine ⟨?_,hmo.nd⟩;have:W9 (R.ext st.next q 0 false) (ks.zip vs)=W9 R (ks.zip vs):=List.map_congr_left fun p _=>by rw [Wm R]
     rw [this];exact hmo.perm
    have hrow:=ObjE.map (P:=P) (R:=R.ext st.next q 0 false) (b:=st.next) k _ _ hmo';rw [hx.1] at hrow;obtain ⟨s',g1,g2⟩:=mk h1 ht h4 _ ha (.map st.next) [] _ (.map k (ks.zip vs)) (by rw [<- hi];exact .other _ rfl) hrow (by simp) (by simp [Z5]) (by simp [Y1])
    exact ⟨_,_,s',_,h1,ha,Nat.le_succ _,by rw [hi];exact Wk.refl _,by intro d hd;simp [Z5] at hd;subst hd;simp [St.add,St.set],g2,g1,hlook _ _⟩
   | other _ hpl=>simp [LV.plain] at hpl
  ·rename_i c' hn1 hn2 hj
   simp at h;obtain ⟨rfl,rfl⟩:=h
   obtain ⟨u,tc,ta,tb,h1,hc,ht,h4⟩:=hce.get j _ hj;have hu:u=Z0 R true c':=by
    cases hc with
    | ownNil e k=>exact absurd rfl (hn1 _ _ _)
    | own e k xs q cap hf hok=>exact absurd rfl (hn1 _ _ _)
    | omap k ks vs q es' hmo=>exact absurd rfl (hn2 _ _ _)
    | other _ hpl=>rfl
   exact ⟨u,R,s,cs,h1,Agree.refl _ _,Nat.le_refl _,by rw [hu];exact Wk.refl _,fun d hd=>hws d (Y7 (List.mem_of_getElem? hj) d hd),.refl _,hs,hl⟩
theorem openCells_sound{P:Program}{b e:Nat}{us:List AV}:∀ (n j:Nat) {R:Inst} {st st1:St} {s:Hp} {l:List LV},SRel P R st s->(∃ cs,st.look b=some (.box e cs)) ->
  (R.ρ b,AObj.cells e us us.length)∈s->W5 st b j n=some (l,st1) ->
  ∃ R' s',Agree st.next R R'/\st.next<=st1.next/\j+n<=us.length+(if n=0 then j else 0)/\WkL ((us.drop j).take n) (Z1 R' true l)/\(∀ d∈Z9 l,d<st1.next)/\s.Perm s'/\SRel P R' st1 s'
 | 0,j,R,st,st1,s,l,hs,hl,hm,h=>by
  simp [W5] at h;obtain ⟨rfl,rfl⟩:=h
  exact ⟨R,s,Agree.refl _ _,Nat.le_refl _,by simp,by simp [Z1];exact .nil,by simp [Z9],.refl _,hs⟩
 | n+1,j,R,st,st1,s,l,hs,hl,hm,h=>by
  obtain ⟨cs,hl⟩:=hl;simp only [W5,hl] at h
  split at h <;> try (simp at h;done)
  rename_i c st2 hc
  split at h <;> try (simp at h;done)
  rename_i l2 st3 hl2;simp at h;obtain ⟨rfl,rfl⟩:=h
  obtain ⟨u,R1,s1,cs1,h1,h2,h3,h4,h5,h6,h7,h8⟩:=openCell_sound hs hl hm hc;have hm1:(R1.ρ b,AObj.cells e us us.length)∈s1:=by rw [(h2 b (hs.look_lt hl)).1];exact h6.mem_iff.1 hm
  obtain ⟨R2,s2,g1,g2,g3,g4,g5,g6,g7⟩:=openCells_sound n (j+1) h7 ⟨cs1,h8⟩ hm1 hl2;obtain ⟨hj,hju⟩:=List.getElem?_eq_some_iff.1 h1;refine ⟨R2,s2,h2.trans g1 h3,Nat.le_trans h3 g2,?_,?_,?_,h6.trans g6,g7⟩
  ·by_cases hn:n=0
   ·subst hn;simp;omega
   ·rw [if_neg hn] at g3;simp;omega
  ·rw [List.drop_eq_getElem_cons hj,hju]
   simp only [List.take_succ_cons,Z1];refine .cons ?_ g4;rw [Yi g1 true h5];exact h4
  ·intro d hd
   simp only [Z9,List.mem_append] at hd;exact hd.elim (fun hd=>Nat.lt_of_lt_of_le (h5 d hd) g2) (g5 d)
theorem flat_at(R:Inst)(l:Bool){k:Nat}{xs:List LV}(h:∀ x∈xs,(Z4 x).length=k){i:Nat}{x:LV}(hx:xs[i]? = some x){o n:Nat}(ho:o+n<=(Z4 x).length):
  i*k+o+n<=((Z1 R l xs).flatMap cellsOf).length/\(((Z1 R l xs).flatMap cellsOf).drop (i*k+o)).take n=Z1 R l (((Z4 x).drop o).take n):=by
 obtain ⟨e1,_,e3⟩:=set_split hx;have hl:((Z1 R l (xs.take i)).flatMap cellsOf).length=i*k:=by rw [X4 R l fun x hx=>h x (List.mem_of_mem_take hx),e3]
 have e4:(Z1 R l xs).flatMap cellsOf=(Z1 R l (xs.take i)).flatMap cellsOf++(Z1 R l (Z4 x)++(Z1 R l (xs.drop (i+1))).flatMap cellsOf):=by
  conv=>lhs;rw [e1,X0]
  simp only [Z1,List.flatMap_cons,Zw]
 constructor
 ·rw [e4];simp only [List.length_append,hl,Zj];omega
 ·rw [e4,<- hl,List.drop_append,List.drop_of_length_le (by omega),List.nil_append,Nat.add_sub_cancel_left,List.drop_append_of_le_length (by rw [Zj];omega),List.take_append_of_le_length (by simp [Zj];omega),instL_take,instL_drop]
theorem inst_sealIf(R:Inst)(f:Bool)(cs:List LV):Z1 R true (sealIf f cs)=Z1 R (!f) cs:=by
 cases f
 ·simp [sealIf]
 ·simp [sealIf,Xu]
theorem refs_sealIf{f:Bool}{cs:List LV}:∀ b∈Z9 (sealIf f cs),f=false/\b∈Z9 cs:=by
 cases f
 ·simp [sealIf]
 ·simp [sealIf,Xr]
theorem lload_sound{P:Program}{R:Inst}{st st':St}{s:Hp}{t:TypeId}{p v:LV}(hs:SRel P R st s)(hp:∀ b∈Z5 p,b<st.next)(h:lload P t p st=some (v,st')):
  Xc P t (Z0 R true p) s (fun r=>LPost P R st v st' r s):=by
 unfold lload at h;unfold Xc
 split at h <;> try (simp at h;done)
 ·rename_i n hag
  split at h <;> try (simp at h;done)
  ·rename_i us
   split at h <;> simp at h
   rename_i hn;obtain ⟨rfl,rfl⟩:=h
   simp only [Z0,Zj];refine ⟨by rw [hn];exact hag,LPost.pure hs ?_ (by simp [Z5,Xr])⟩
   simp only [Z0,Xu];exact Wk.refl _
  ·rename_i b o
   split at h <;> try (simp at h;done)
   rename_i hn
   split at h <;> simp at h
   rename_i l st1 hl;obtain ⟨rfl,rfl⟩:=h
   have hbox:n≠0->∃ e cs,st.look b=some (.box e cs):=by
    intro hn
    cases n with
    | zero=>exact absurd rfl hn
    | succ n =>
     simp only [W5] at hl
     split at hl <;> try (simp at hl;done)
     exact ⟨_,_,by assumption⟩
   obtain ⟨e,cs,hlook⟩:=hbox hn;obtain ⟨us,tt,hce,hm⟩:=hs.box hlook;obtain ⟨R',s',g1,g2,g3,g4,g5,g6,g7⟩:=openCells_sound n o hs ⟨cs,hlook⟩ hm hl;rw [if_neg hn] at g3;simp only [Z0,Yy hs.nd hm,hag];refine ⟨by omega,R',s',g1,g2,?_,by simpa [Z5] using g5,HpWk.perm g6,g7⟩
   simp only [Z0];exact Wk.agg g4
  ·rename_i k b i o
   split at h <;> try (simp at h;done)
   rename_i e k' xs hl
   split at h <;> try (simp at h;done)
   rename_i x hx
   split at h <;> simp at h
   rename_i hc;obtain ⟨rfl,ho⟩:=hc;obtain ⟨rfl,rfl⟩:=h
   cases hs.row hl with
   | nil hz hx'=>subst hx';simp at hx
   | row hz ok hm =>
    obtain ⟨f1,f2⟩:=flat_at R (rlv P e) ok.cells hx ho;simp only [Z0,Yy hs.nd hm,hag];refine ⟨f1,?_⟩;rw [f2];refine LPost.pure hs ?_ ?_
    ·simp only [Z0,inst_sealIf];exact Wk.refl _
    ·intro d hd
     simp only [Z5] at hd;obtain ⟨hf,hd⟩:=refs_sealIf d hd;exact hs.look_ws hl d (by
      simp only [Y1,hf];exact Y7 (List.mem_of_getElem? hx) d (refs_lcells x d (refsL_sub (fun y hy=>List.mem_of_mem_drop (List.mem_of_mem_take hy)) d hd)))
 ·rename_i hag
  split at h <;> try (simp at h;done)
  ·rename_i x
   split at h <;> simp at h
   rename_i hna;obtain ⟨rfl,rfl⟩:=h
   simp only [Z0];have hna':(Z0 R false x).isAgg=false:=by rw [V8];simpa using hna
   have hk:LPost P R st (Zs x) st (Z0 R false x) s:=LPost.pure hs (by rw [inst_seal];exact Wk.refl _) (by simp [refs_seal])
   split
   ·rename_i us e;rw [e] at hna';simp [AV.isAgg] at hna'
   ·exact ⟨hag,hk⟩
  ·rename_i b o
   split at h <;> try (simp at h;done)
   rename_i e cs hlook;obtain ⟨us,tt,hce,hm⟩:=hs.box hlook;obtain ⟨u,R1,s1,cs1,h1,h2,h3,h4,h5,h6,h7,h8⟩:=openCell_sound hs hlook hm h;simp only [Z0,Yy hs.nd hm,hag,h1];exact ⟨R1,s1,h2,h3,h4,h5,HpWk.perm h6,h7⟩
  ·rename_i k b i o
   split at h <;> try (simp at h;done)
   rename_i e k' xs hl
   split at h <;> try (simp at h;done)
   rename_i x hx
   split at h <;> try (simp at h;done)
   rename_i hk;subst hk
   split at h <;> simp at h
   rename_i c hc;obtain ⟨rfl,rfl⟩:=h
   obtain ⟨ho,hcc⟩:=List.getElem?_eq_some_iff.1 hc
   cases hs.row hl with
   | nil hz hx'=>subst hx';simp at hx
   | row hz ok hm =>
    obtain ⟨f1,f2⟩:=flat_at R (rlv P e) ok.cells hx (o:=o) (n:=1) (by omega)
    have f3:((Z1 R (rlv P e) xs).flatMap cellsOf)[i*k'+o]? = some (Z0 R (rlv P e) c):=by
     have:=congrArg (fun l=>l[0]?) f2
     simp only [List.getElem?_take,List.getElem?_drop,Nat.add_zero,instL_get] at this;simp at this;rw [this,hc];rfl
    simp only [Z0,Yy hs.nd hm,hag,f3];refine LPost.pure hs ?_ ?_
    ·unfold rlv
     cases hf:Y4 P e
     ·simp only [Bool.false_eq_true,if_false,Bool.not_false];exact Wk.refl _
     ·simp only [if_true,inst_seal,Bool.not_true];exact Wk.refl _
    ·intro d hd
     cases hf:Y4 P e
     ·rw [hf] at hd
      simp only [Bool.false_eq_true,if_false] at hd;exact hs.look_ws hl d (by simp only [Y1,hf];exact Y7 (List.mem_of_getElem? hx) d (refs_cell (List.mem_of_getElem? hc) d hd))
     ·rw [hf] at hd
      simp [refs_seal] at hd
theorem refsL_lcells(x:LV):Z9 (Z4 x)=Z5 x:=by cases x <;> simp [Z4,Z9,Z5]
theorem lstore_sound{P:Program}{R:Inst}{st st':St}{s:Hp}{t:TypeId}{p x:LV}(hs:SRel P R st s)(hx:∀ b∈Z5 x,b<st.next)(h:lstore P t p x st=some st'):
  astore P t (Z0 R true p) (Z0 R true x) s (fun t=>LPost P R st .any st' (.v undef) t):=by
 have hany:Wk (.v undef) (Z0 R true .any):=by simp only [Z0];exact Wk.any _ _
 unfold lstore at h;unfold astore
 split at h <;> try (simp at h;done)
 rename_i ag n hag;simp only at h
 split at h <;> try (simp at h;done)
 rename_i hc;obtain ⟨hn,hone⟩:=hc;have hcells:cellsOf (Z0 R true x)=Z1 R true (Z4 x):=Zw R true x
 split at h <;> try (simp at h;done)
 ·rename_i b o
  split at h <;> try (simp at h;done)
  rename_i e l hl
  split at h <;> simp at h
  rename_i ho;subst h;obtain ⟨us,hm,hul,hpost⟩:=box_turn hs hl (o:=o) (ds:=Z4 x) (fun c hc=>one_plain (List.all_eq_true.1 hone c hc)) (fun c hc=>hx c (refs_lcells x c hc)) (by rw [hn];exact ho) .any (.v undef) hany (by simp [Z5])
  simp only [Z0,Yy hs.nd hm,hag,hcells,Zj];exact ⟨by simp [hn],by rw [hul,hn];exact ho,Wp R hone,hpost _ (WkL.refl _)⟩
 ·rename_i k' b i o
  split at h <;> try (simp at h;done)
  rename_i e k xs hl
  split at h <;> try (simp at h;done)
  rename_i y hy
  split at h <;> try (simp at h;done)
  rename_i hc;obtain ⟨rfl,hoa,hyo,ho⟩:=hc
  split at h <;> simp at h
  rename_i y' hy';subst h
  cases hs.row hl with
  | nil hz hx'=>subst hx';simp at hy
  | row hz ok hm =>
   have hlc:Z4 y'=Z7 (Z4 y) o (Z4 x):=by
    unfold reelem at hy'
    split at hy'
    ·simp at hy';subst hy';rfl
    ·split at hy'
     ·rename_i c hsp
      simp at hy';subst hy';rw [hsp];have hcy:c∈Z7 (Z4 y) o (Z4 x):=by rw [hsp];simp
      rcases Yz hcy with hcy | hcy
      ·exact lcells_one (List.all_eq_true.1 hyo c hcy)
      ·exact lcells_one (List.all_eq_true.1 hone c hcy)
     ·simp at hy'
   obtain ⟨f1,f2⟩:=flat_at R (rlv P e) ok.cells hy (o:=o) (n:=n) ho;have hset:=flat_set R (rlv P e) ok.cells hy (o:=o) (cs:=Z4 x) (z:=y') (by rw [hn];exact ho) hlc
   simp only [Z0,Yy hs.nd hm,hag,hcells,Zj];refine ⟨by simp [hn],by rw [hn];exact f1,Wp R hone,?_⟩
   refine row_turn hs hl hz (xs':=xs.set i y') ⟨fun z hz=>?_,fun hf z hz=>?_,by rw [List.length_set];exact ok.le,ok.cap,by rw [List.length_set];exact ok.big⟩ (fun hf c hc=>?_) _ ?_ _ _ hany (by simp [Z5])
   ·rcases List.mem_or_eq_of_mem_set hz with hz | rfl
    ·exact ok.cells z hz
    ·rw [hlc,Wd (by rw [hn];exact ho)];exact ok.cells y (List.mem_of_getElem? hy)
   ·rcases List.mem_or_eq_of_mem_set hz with hz | rfl
    ·exact ok.one hf z hz
    ·rw [hlc,List.all_eq_true]
     intro c hc
     rcases Yz hc with hc | hc
     ·exact List.all_eq_true.1 (ok.one hf y (List.mem_of_getElem? hy)) c hc
     ·have:=List.all_eq_true.1 hoa c hc;rw [hf] at this;exact this
   ·rcases refsL_set c hc with hc | hc
    ·exact hs.look_ws hl c (by simp only [Y1,hf];exact hc)
    ·obtain ⟨d,hd,hc⟩:=refsL_of (show c∈Z9 (Z4 y') by rw [refsL_lcells];exact hc)
     rw [hlc] at hd
     rcases Yz hd with hd | hd
     ·exact hs.look_ws hl c (by simp only [Y1,hf];exact Y7 (List.mem_of_getElem? hy) c (refs_cell hd c hc))
     ·exact hx c (refs_cell hd c hc)
   ·rw [hset]
    refine (WkL.refl _).splice ?_ _
    cases rlv P e
    ·exact wk_deadL R _
    ·exact WkL.refl _
def kfil{α:Type}(es:List (Int × α))(n:Int):List (Int × α):=es.filter fun p=>!(p.1==n)
theorem kfil_out{α:Type}{es:List (Int × α)}{n:Int}(h:n∉es.map (·.1)):kfil es n=es:=by
 unfold kfil;rw [List.filter_eq_self];intro p hp;have:p.1≠n:=fun e=>h (List.mem_map.2 ⟨p,hp,e⟩)
 simpa using this
theorem kget_none{es:List (Int × LV)}{n:Int}(h:n∉es.map (·.1)):Yk es n=none:=by
 induction es with
 | nil=>rfl
 | cons p es ih =>
  obtain ⟨k,v⟩:=p
  simp only [List.map_cons,List.mem_cons,not_or] at h;unfold Yk;rw [if_neg fun e=>h.1 e.symm];exact ih h.2
theorem kget_some{es:List (Int × LV)}{n:Int}(h:n∈es.map (·.1)):∃ x,Yk es n=some x/\(n,x)∈es:=by
 induction es with
 | nil=>simp at h
 | cons p es ih =>
  obtain ⟨k,v⟩:=p
  unfold Yk
  by_cases hk:k=n
  ·rw [if_pos hk];subst hk;exact ⟨v,rfl,List.mem_cons_self⟩
  ·rw [if_neg hk]
   obtain ⟨x,h1,h2⟩:=ih (by simpa [Ne.symm hk] using h)
   exact ⟨x,h1,List.mem_cons_of_mem _ h2⟩
theorem mget_none'{es:List (Int × AV)}{n:Int}(h:n∉es.map (·.1)):mget es n=none:=by
 unfold mget;rw [List.find?_eq_none.2];rfl;intro p hp;have:p.1≠n:=fun e=>h (List.mem_map.2 ⟨p,hp,e⟩)
 simpa using this
theorem mget_mem{es:List (Int × AV)}(hn:(es.map (·.1)).Nodup){n:Int}{u:AV}(h:(n,u)∈es):mget es n=some u:=by
 induction es with
 | nil=>simp at h
 | cons p es ih =>
  obtain ⟨k,v⟩:=p
  simp only [List.map_cons,List.nodup_cons] at hn;unfold mget;rw [List.find?_cons]
  rcases List.mem_cons.1 h with e | e
  ·injection e with e1 e2;subst e1;subst e2;simp
  ·have hk:k≠n:=fun e'=>hn.1 (by subst e';exact List.mem_map.2 ⟨_,e,rfl⟩)
   have:(k==n)=false:=by simpa using hk
   simp only [this];exact ih hn.2 e
theorem mapAV_keys(R:Inst)(es:List (Int × LV)):(W9 R es).map (·.1)=es.map (·.1):=by simp [W9]
theorem MapOk.keys{R:Inst}{es:List (Int × LV)}{es':List (Int × AV)}(h:MapOk R es es'):(es'.map (·.1)).Perm (es.map (·.1)):=by
 have:=h.perm.map (·.1)
 rwa [mapAV_keys] at this
theorem MapOk.get{R:Inst}{es:List (Int × LV)}{es':List (Int × AV)}(h:MapOk R es es')(n:Int):mget es' n=(Yk es n).map (Z0 R false):=by
 by_cases hm:n∈es.map (·.1)
 ·obtain ⟨x,h1,h2⟩:=kget_some hm
  rw [h1];exact mget_mem h.nd (h.perm.mem_iff.2 (List.mem_map.2 ⟨_,h2,rfl⟩))
 ·rw [kget_none hm]
  exact mget_none' fun hm'=>hm (h.keys.mem_iff.1 hm')
theorem kfil_cons{α:Type}{k:Int}{v:α}{es:List (Int × α)}{n:Int}:kfil ((k,v)::es) n=if k=n then kfil es n else (k,v)::kfil es n:=by
 unfold kfil
 by_cases hk:k=n
 ·rw [if_pos hk,List.filter_cons_of_neg (by simpa using hk)]
 ·rw [if_neg hk,List.filter_cons_of_pos (by simpa using hk)]
theorem kset_perm{es:List (Int × LV)}(hn:(es.map (·.1)).Nodup){n:Int}(hm:n∈es.map (·.1))(x:LV):(kset es n x).Perm ((n,x)::kfil es n):=by
 induction es with
 | nil=>simp at hm
 | cons p es ih =>
  obtain ⟨k,v⟩:=p
  simp only [List.map_cons,List.nodup_cons] at hn;unfold kset;rw [kfil_cons]
  by_cases hk:k=n
  ·rw [if_pos hk,if_pos hk]
   subst hk;rw [kfil_out hn.1]
  ·rw [if_neg hk,if_neg hk]
   exact ((ih hn.2 (by simpa [Ne.symm hk] using hm)).cons _).trans (List.Perm.swap _ _ _)
theorem kins_perm:∀ (es:List (Int × LV)) (n:Int) (x:LV),(kins es n x).Perm ((n,x)::es)
 | [],n,x=>.refl _
 | (k,v)::es,n,x=>by
  unfold kins
  split
  ·exact .refl _
  ·exact ((kins_perm es n x).cons _).trans (List.Perm.swap _ _ _)
theorem kput_perm{es:List (Int × LV)}(hn:(es.map (·.1)).Nodup)(n:Int)(x:LV):(Wy es n x).Perm ((n,x)::kfil es n):=by
 unfold Wy
 by_cases hm:n∈es.map (·.1)
 ·obtain ⟨y,h1,_⟩:=kget_some hm
  rw [h1];simp only [Option.isSome_some,if_true];exact kset_perm hn hm x
 ·rw [kget_none hm,if_neg (by simp),kfil_out hm]
  exact kins_perm es n x
theorem kdel_eq{es:List (Int × LV)}(hn:(es.map (·.1)).Nodup)(n:Int):kdel es n=kfil es n:=by
 induction es with
 | nil=>rfl
 | cons p es ih =>
  obtain ⟨k,v⟩:=p
  simp only [List.map_cons,List.nodup_cons] at hn;unfold kdel;rw [kfil_cons]
  by_cases hk:k=n
  ·rw [if_pos hk,if_pos hk];subst hk;rw [kfil_out hn.1]
  ·rw [if_neg hk,if_neg hk,ih hn.2]
theorem erase_eq{es:List (Int × AV)}(hn:(es.map (·.1)).Nodup)(n:Int):es.eraseIdx (es.findIdx (fun p=>p.1==n))=kfil es n:=by
 induction es with
 | nil=>rfl
 | cons p es ih =>
  obtain ⟨k,v⟩:=p
  simp only [List.map_cons,List.nodup_cons] at hn;rw [List.findIdx_cons,kfil_cons]
  by_cases hk:k=n
  ·subst hk
   simp [kfil_out hn.1]
  ·have:(k==n)=false:=by simpa using hk
   simp only [this,if_neg hk,cond_false,List.eraseIdx_cons_succ];rw [ih hn.2]
theorem mput_perm{es:List (Int × AV)}(hn:(es.map (·.1)).Nodup)(n:Int)(x:AV):(mput es n x).Perm ((n,x)::kfil es n):=by
 have key:∀ es:List (Int × AV),(es.map (·.1)).Nodup->n∈es.map (·.1)->(es.set (es.findIdx (fun p=>p.1==n)) (n,x)).Perm ((n,x)::kfil es n):=by
  intro es
  induction es with
  | nil=>intro _ h;simp at h
  | cons p es ih =>
   obtain ⟨k,v⟩:=p
   intro hn hm;simp only [List.map_cons,List.nodup_cons] at hn;rw [List.findIdx_cons,kfil_cons]
   by_cases hk:k=n
   ·subst hk
    simp [kfil_out hn.1]
   ·have:(k==n)=false:=by simpa using hk
    simp only [this,if_neg hk,cond_false,List.set_cons_succ];exact ((ih hn.2 (by simpa [Ne.symm hk] using hm)).cons _).trans (List.Perm.swap _ _ _)
 unfold mput
 by_cases hm:n∈es.map (·.1)
 ·obtain ⟨p,hp,e⟩:=List.mem_map.1 hm
  have:mget es n=some p.2:=mget_mem hn (by rw [<- e];exact hp)
  rw [this];exact key es hn hm
 ·rw [mget_none' hm,kfil_out hm]
  exact List.perm_append_comm
theorem kfil_mapAV(R:Inst)(es:List (Int × LV))(n:Int):kfil (W9 R es) n=W9 R (kfil es n):=by
 unfold kfil W9;rw [List.filter_map];rfl
theorem kfil_sub{α:Type}(es:List (Int × α))(n:Int):(kfil es n).Sublist es:=List.filter_sublist
theorem kfil_not{α:Type}(es:List (Int × α))(n:Int):n∉(kfil es n).map (·.1):=by
 intro h;obtain ⟨p,hp,e⟩:=List.mem_map.1 h;have:=(List.mem_filter.1 hp).2;simp [e] at this
theorem MWk.perm_cons{n:Int}{u v:AV}(h:Wk u v)(es:List (Int × AV)):MWk ((n,u)::es) ((n,v)::es):=by
 refine .cons n h ?_
 induction es with
 | nil=>exact .nil
 | cons p es ih=>obtain ⟨k,w⟩:=p;exact .cons k (Wk.refl _) ih
theorem MWk.set{n:Int}{u v:AV}(h:Wk u v):∀ (es:List (Int × AV)) (i:Nat),MWk (es.set i (n,u)) (es.set i (n,v))
 | [],i=>by simp;exact .nil
 | p::es,0=>by simpa using MWk.perm_cons h es
 | (k,w)::es,i+1=>by simpa using MWk.cons k (Wk.refl w) (MWk.set h es i)
theorem MWk.append{a b c d:List (Int × AV)}(h:MWk a b)(k:MWk c d):MWk (a++c) (b++d):=by
 induction h with
 | nil=>exact k
 | cons n h _ ih=>exact .cons n h ih
theorem MWk.refl:∀ (es:List (Int × AV)),MWk es es
 | []=>.nil
 | (k,w)::es=>.cons k (Wk.refl w) (MWk.refl es)
theorem MWk.mput{u v:AV}(h:Wk u v)(es:List (Int × AV))(n:Int):MWk (mput es n u) (mput es n v):=by
 unfold Eng.mput
 cases mget es n with
 | none=>exact (MWk.refl es).append (.cons n h .nil)
 | some y=>exact MWk.set h es _
theorem map_turn{P:Program}{R:Inst}{st:St}{s:Hp}(hs:SRel P R st s){b:Nat}{k:IntKind}{es es2:List (Int × LV)}(hl:st.look b=some (.map k es))(v:LV)(r:AV)(hw:Wk r (Z0 R true v))(hv:∀ c∈Z5 v,c<st.next):
  ∃ es',MapOk R es es'/\(R.ρ b,AObj.imap k es')∈s/\∀ us ws,MWk us ws->MapOk R es2 ws->LPost P R st v (st.set b (.map k es2)) r (s.set (R.ρ b) (.imap k us)):=by
 obtain ⟨t1,t2,ho,hp,hn,hset,_⟩:=hs.open hl
 cases ho with
 | map _ _ es' hmo =>
  refine ⟨es',hmo,hp.mem_iff.2 (by simp),fun us ws hw2 hok=>?_⟩
  obtain ⟨s',g1,g2⟩:=hset _ _ (ObjE.map k es2 ws hok) (head_keys hn) (by simp [Y1])
  exact ⟨R,s',Agree.refl _ _,Nat.le_refl _,hw,hv,(HpWk.perm (set_perm hp hs.nd)).trans ((HpWk.head (.imap _ hw2)).trans (HpWk.perm g2.symm)),g1⟩
theorem llookup_sound{P:Program}{R:Inst}{st:St}{s:Hp}{t:TypeId}{m i v:LV}{c:Bool}{K:AV->Prop}(hs:SRel P R st s)(h:llookup P t m i c st=some v)(hk:K (Z0 R true v)):
  alookup P t (Z0 R true m) (Z0 R true i) c s K:=by
 unfold llookup at h;unfold alookup
 split at h <;> try (simp at h;done)
 rename_i k el k' n hm
 split at h <;> try (simp at h;done)
 rename_i hkk;subst hkk
 split at h <;> try (simp at h;done)
 rename_i z hz;obtain ⟨zv,z1,z2,z3,z4⟩:=zelem_eq R hz;simp only [Z0,hm,z1];refine ⟨trivial,?_⟩;have hzk:∀ v,some (if c=true then LV.tup [z,.bool false] else z)=some v->K (Z0 R true v)->K (if c=true then AV.tup [ofValue zv,.v (.bool false)] else ofValue zv):=by
  intro v hv hk;injection hv with hv;subst hv
  cases c
  ·simp only [Bool.false_eq_true,if_false] at hk ⊢;rw [<- z3 true];exact hk
  ·simp only [if_true] at hk ⊢
   simp only [Z0,Z1,z3] at hk;exact hk
 split at h <;> try (simp at h;done)
 ·simp only [Z0];exact hzk v h hk
 ·rename_i b
  split at h <;> try (simp at h;done)
  rename_i k'' es hl
  split at h <;> try (simp at h;done)
  rename_i hkk;subst hkk;obtain ⟨es',hmo,hmem⟩:=hs.map hl;simp only [Z0,Yy hs.nd hmem,hmo.get];refine ⟨trivial,?_⟩
  split at h
  ·rename_i x hx
   rw [hx];simp only [Option.map_some];injection h with h;subst h
   cases c
   ·simp only [Bool.false_eq_true,if_false] at hk ⊢;rw [inst_seal] at hk;exact hk
   ·simp only [if_true] at hk ⊢;simp only [Z0,Z1,inst_seal] at hk;exact hk
  ·rename_i hx
   rw [hx];simp only [Option.map_none];exact hzk v h hk
theorem llookup_refs{P:Program}{st:St}{t:TypeId}{m i v:LV}{c:Bool}(h:llookup P t m i c st=some v):Z5 v=[]:=by
 unfold llookup at h
 split at h <;> try (simp at h;done)
 split at h <;> try (simp at h;done)
 split at h <;> try (simp at h;done)
 rename_i z hz;obtain ⟨zv,z1,z2,z3,z4⟩:=zelem_eq ⟨id,id,fun _=>false⟩ hz
 split at h <;> try (simp at h;done)
 ·simp at h;subst h;cases c <;> simp [Z5,Z9,z4]
 ·split at h <;> try (simp at h;done)
  split at h <;> try (simp at h;done)
  split at h
  ·simp at h;subst h;cases c <;> simp [Z5,Z9,refs_seal]
  ·simp at h;subst h;cases c <;> simp [Z5,Z9,z4]
theorem lmapUpdate_sound{P:Program}{R:Inst}{st st':St}{s:Hp}{t:TypeId}{m i x:LV}(hs:SRel P R st s)(h:lmapUpdate P t m i x st=some st'):
  Wj P t (Z0 R true m) (Z0 R true i) (Z0 R true x) s (fun t=>LPost P R st .any st' (.v undef) t):=by
 unfold lmapUpdate at h;unfold Wj
 split at h <;> try (simp at h;done)
 rename_i k el k' n b hm
 split at h <;> try (simp at h;done)
 rename_i k'' es hl
 split at h <;> simp at h
 rename_i hkk;obtain ⟨rfl,rfl⟩:=hkk;subst h;obtain ⟨es',hmo,hmem,hpost⟩:=map_turn (es2:=Wy es n x) hs hl .any (.v undef) (by simp only [Z0];exact Wk.any _ _) (by simp [Z5])
 simp only [Z0,hm,Yy hs.nd hmem];refine ⟨trivial,trivial,hpost _ (mput es' n (Z0 R false x)) (MWk.mput (wk_dead R x) _ _) ?_⟩;have hnd:(es.map (·.1)).Nodup:=hmo.keys.nodup_iff.1 hmo.nd;have hfil:(kfil es' n).Perm (W9 R (kfil es n)):=by rw [<- kfil_mapAV];exact hmo.perm.filter _
 have hp1:=mput_perm hmo.nd n (Z0 R false x);have hp2:(W9 R (Wy es n x)).Perm (W9 R ((n,x)::kfil es n)):=(kput_perm hnd n x).map _;refine ⟨hp1.trans ((hfil.cons _).trans hp2.symm),?_⟩;refine ((hp1.map (·.1)).nodup_iff).2 ?_
 simp only [List.map_cons,List.nodup_cons];exact ⟨kfil_not _ _,hmo.nd.sublist ((kfil_sub _ _).map _)⟩
theorem ldelete_sound{P:Program}{R:Inst}{st st':St}{s:Hp}{t:TypeId}{m i:LV}(hs:SRel P R st s)(h:ldelete P t m i st=some st'):
  adelete P t (Z0 R true m) (Z0 R true i) s (fun r t=>LPost P R st (.tup []) st' r t):=by
 unfold ldelete at h;unfold adelete
 split at h <;> try (simp at h;done)
 rename_i k el k' n b hm
 split at h <;> try (simp at h;done)
 rename_i k'' es hl
 split at h <;> simp at h
 rename_i hkk;obtain ⟨rfl,rfl⟩:=hkk;subst h;obtain ⟨es',hmo,hmem,hpost⟩:=map_turn (es2:=kdel es n) hs hl (.tup []) (.v (.tuple #[])) (by
   simp only [Z0,Z1];intro I x r;obtain rfl:=r.of_v;exact .tup #[] [] rfl (by simp)) (by simp [Z5,Z9])
 simp only [Z0,hm,Yy hs.nd hmem];refine ⟨trivial,trivial,hpost _ _ (MWk.refl _) ?_⟩;have hnd:(es.map (·.1)).Nodup:=hmo.keys.nodup_iff.1 hmo.nd;rw [erase_eq hmo.nd,kdel_eq hnd];exact ⟨by rw [<- kfil_mapAV];exact hmo.perm.filter _,hmo.nd.sublist ((kfil_sub _ _).map _)⟩
theorem OpS.res{P:Program}{o:Oper}{e:Env}{s:Hp}{K:AV->Hp->Prop}(h:OpS P o e s (fun r t=>∃ r',Wk r r'/\K r' t)):OpS P o e s K:=
 fun n I w a he hs next Q hn=>h n I w a he hs next Q fun v r t J w' h1 h2 h3 ⟨r',hw,hk⟩=>hn v r' t J w' (hw J v h1) h2 h3 hk
theorem Meets.res{P:Program}{f:FuncId}{as:List AV}{s:Hp}{K:AV->Hp->Prop}(h:Meets P f as s (fun r t=>∃ r',Wk r r'/\K r' t)):Meets P f as s K:=by
 unfold Meets at h ⊢;intro I w vs hs hv;exact (h I w vs hs hv).mono fun v w' ⟨r,t,J,⟨r',hw,hk⟩,h2,h3,h4⟩=>⟨r',t,J,hk,h2,hw J v h3,h4⟩
theorem Meets.wkargs{P:Program}{f:FuncId}{as bs:List AV}{s:Hp}{K:AV->Hp->Prop}(h:Meets P f bs s K)(hw:WkL as bs):Meets P f as s K:=
 Meets.args (fun I vs hv=>⟨by rw [hv.len,hw.length],fun j u hu=>by
  obtain ⟨u',h1,h2⟩:=hw.get j u hu;exact h2 I _ (hv.rv j u' h1)⟩) h
def LMeets(P:Program)(f:FuncId)(as:List LV)(st:St)(v:LV)(st':St):Prop:=
 ∀ R s,SRel P R st s->(∀ b∈Z9 as,b<st.next)->Meets P f (Z1 R true as) s (fun r t=>LPost P R st v st' r t)
def Yq(P:Program)(call:Zz):Prop:=∀ f as st v st',call f as st=some (v,st')->LMeets P f as st v st'
theorem SRel.empty(P:Program)(R:Inst):SRel P R ⟨0,[]⟩ []:=⟨.nil,by simp [Hp.keys],by simp,by simp,by simp⟩
theorem pureCall_meets{P:Program}{call:Zz}(hc:Yq P call){f:FuncId}{as:List LV}{v:LV}(hr:Z9 as=[])(h:pureCall call f as=some v)(R:Inst)(s:Hp){K:AV->Hp->Prop}(hk:K (Z0 R true v) s):
  Meets P f (Z1 R true as) s K:=by
 unfold pureCall at h
 split at h <;> try (simp at h;done)
 rename_i v' st' hcall
 split at h <;> simp at h
 rename_i hv;subst h;refine Meets.alone (Meets.res ((hc f as _ _ _ hcall R [] (SRel.empty P R) (by rw [hr];simp)).mono fun r t hp=>?_))
 obtain ⟨R',s',h1,h2,h3,h4,h5,h6⟩:=hp;refine ⟨Z0 R true v',?_,hk⟩;rw [inst_same R R' true v' (fun b hb=>by
  have:Z5 v'=[]:=by simpa using hv
  rw [this] at hb;simp at hb)] at h3
 exact h3
theorem doCall_meets{P:Program}{call:Zz}(hc:Yq P call){f:FuncId}{as:List LV}{st st':St}{v:LV}(h:doCall call f as st=some (v,st')){R:Inst}{s:Hp}(hs:SRel P R st s)(hr:∀ b∈Z9 as,b<st.next):
  Meets P f (Z1 R true as) s (fun r t=>LPost P R st v st' r t):=by
 unfold doCall at h
 split at h
 ·rename_i he
  have he:Z9 as=[]:=by simpa using he
  split at h
  ·rename_i v' hp
   simp at h;obtain ⟨rfl,rfl⟩:=h
   refine pureCall_meets hc he hp R s ?_
   have hv:Z5 v'=[]:=by
    unfold pureCall at hp
    split at hp <;> try (simp at hp;done)
    split at hp <;> simp at hp
    rename_i hv;subst hp;simpa using hv
   exact LPost.pure hs (Wk.refl _) (by rw [hv];simp)
  ·exact hc f as st v st' h R s hs hr
 ·exact hc f as st v st' h R s hs hr
theorem evs_wk(R:Inst)(le:LEnv):∀ (l:List Operand),WkL (l.map (ev (Ze R le))) (Z1 R true (evs le l))
 | []=>by simp [evs,Z1];exact .nil
 | x::l=>by simp only [List.map_cons,evs,Z1];exact .cons (ev_wk R le x) (evs_wk R le l)
theorem evs_refs{n:Nat}{le:LEnv}(h:EWS n le):∀ (l:List Operand),∀ b∈Z9 (evs le l),b<n
 | [],b,hb=>by simp [evs,Z9] at hb
 | x::l,b,hb=>by
  simp only [evs,Z9,List.mem_append] at hb;exact hb.elim (ev_refs h x b) (evs_refs h l b)
theorem flats_map(R:Inst):∀ {xs:List LV} {ys:List Value},Yg (Z1 R true xs)=some ys->Z1 R true xs=ys.map .v
 | [],ys,h=>by simp [Z1,Yg] at h;subst h;rfl
 | x::xs,ys,h=>by
  simp only [Z1] at h ⊢
  cases hx:Z0 R true x with
  | v z =>
   rw [hx] at h;simp only [Yg] at h
   cases hq:Yg (Z1 R true xs) with
   | none=>rw [hq] at h;simp at h
   | some q=>rw [hq] at h;simp at h;subst h;rw [flats_map R hq];rfl
  | _=>rw [hx] at h;simp [Yg] at h
theorem meth?_sound{P:Program}{t:TypeId}{m:String}{f:FuncId}(h:meth? P t m=some f):MethT P t m f:=by
 unfold meth? at h
 split at h <;> try (simp at h;done)
 rename_i i d hi hd
 split at h <;> try (simp at h;done)
 rename_i q hq
 split at h <;> try (simp at h;done)
 rename_i hpath;have hpath:q.path = #[]:=by simpa using hpath
 intro v w
 show (method (P.types.size+99+1) t v m).run P w=_
 unfold method
 cases hqf:q.func with
 | none=>rw [hqf] at h;simp at h
 | some p =>
  obtain ⟨f',b⟩:=p
  rw [hqf] at h
  cases b
  ·have hp2:f'=f/\∀ e,d≠.pointer e:=by
    cases d <;> simp at h <;> simp [h]
   obtain ⟨rfl,hp2⟩:=hp2
   cases d <;> simp [typeInfo,hi,hq,hpath,follow,hqf,receiverAt,run_underlying hd,Place.get]
   exact absurd rfl (hp2 _)
  ·have hp2:f'=f/\∃ e,d=.pointer e:=by
    cases d <;> simp at h <;> simp [h]
   obtain ⟨rfl,e,rfl⟩:=hp2;simp [typeInfo,hi,hq,hpath,follow,hqf,receiverAt,run_underlying hd,Place.get]
theorem fnCall_acall{P:Program}{R:Inst}{le:LEnv}{c:Call}{f:FuncId}{as:List LV}{s:Hp}{K:AV->Hp->Prop}(h:fnCall P c le=some (f,as))(hm:Meets P f (Z1 R true as) s K):acall P c (Ze R le) s K:=by
 unfold fnCall at h;unfold acall
 split at h <;> try (simp at h;done)
 ·rename_i x hcal
  split at h <;> try (simp at h;done)
  rename_i g first caps hx
  split at h <;> simp at h
  rename_i hcap;simp only [Bool.and_eq_true] at hcap;obtain ⟨rfl,rfl⟩:=h
  simp only [hcal];have hev:ev (Ze R le) x=Z0 R true (le.ev x):=(ev_cases R le x).resolve_left (by rw [hx];simp)
  rw [hev,hx];obtain ⟨p,h1⟩:=caps_flat R hcap.1;obtain ⟨q,h2⟩:=caps_flat R hcap.2;simp only [Z0,h1,h2,W8];refine Meets.wkargs hm ?_
  rw [instL_append,instL_append,flats_map R h1,flats_map R h2];rw [<- List.append_assoc];exact ((WkL.refl _).append (evs_wk R le _)).append (WkL.refl _)
 ·rename_i r m hcal
  split at h <;> try (simp at h;done)
  rename_i t y hr
  split at h <;> simp at h
  rename_i g hg;obtain ⟨rfl,rfl⟩:=h
  simp only [hcal];have hev:ev (Ze R le) r=Z0 R true (le.ev r):=(ev_cases R le r).resolve_left (by rw [hr];simp)
  rw [hev,hr];simp only [Z0];have hm':Meets P g (Z0 R true y::c.args.toList.map (ev (Ze R le))) s K:=Meets.wkargs hm (by simp only [Z1];exact .cons (Wk.refl _) (evs_wk R le _))
  unfold ainvoke
  rcases Yf t (Z0 R true y) with ⟨z,e1,e⟩ | e <;> rw [e]
  ·simp only;exact ⟨g,z,fun w=>meth?_sound hg z w,by rw [<- e1];exact hm'⟩
  ·simp only;exact ⟨g,meth?_sound hg,hm'⟩
theorem makeMap_sound{P:Program}{R:Inst}{st:St}{s:Hp}(hs:SRel P R st s)(k:IntKind)(b:Nat)(hb:b∉s.keys):
  LPost P R st (.map st.next) (st.add (.map k [])) (.v (.map (some b))) ((b,.imap k [])::s):=by
 have ha:=Wn R st.next b 0 false;have hx:=ext_self R st.next b 0 false;refine ⟨R.ext st.next b 0 false,_,ha,Nat.le_succ _,by simp only [Z0,hx.1];exact Wk.refl _,by intro d hd;simp [Z5] at hd;subst hd;simp [St.add],HpWk.refl _,?_⟩
 have ho:=ObjE.map (P:=P) (R:=R.ext st.next b 0 false) (b:=st.next) k [] [] ⟨by simp [W9],by simp⟩
 rw [hx.1] at ho;exact hs.add _ ha _ _ ho (nodup_cons hb hs.nd) (by simp [Y1])
theorem evs_toList{R:Inst}{le:LEnv}:∀ {l:List Operand},(evs le l).all LV.cap=true->l.map (ev (Ze R le))=Z1 R true (evs le l)
 | [],_=>rfl
 | x::l,h=>by
  simp only [evs,List.all_cons,Bool.and_eq_true] at h;simp only [List.map_cons,evs,Z1];rw [evs_toList h.2,(ev_cases R le x).resolve_left (fun e=>by rw [e] at h;simp [LV.cap] at h)]
theorem okOpd_ev{R:Inst}{le:LEnv}{x:Operand}(h:okOpd le x=true):ev (Ze R le) x=Z0 R true (le.ev x):=by
 cases x with
 | tmp t=>rfl
 | _=>exact (ev_cases R le _).resolve_left fun e=>by simp [okOpd,e,LV.isAny] at h
theorem lcallB_sound{P:Program}{call:Zz}{c:Call}{le:LEnv}{st st':St}{v:LV}{R:Inst}{s:Hp}(hc:Yq P call)(hs:SRel P R st s)(he:EWS st.next le)(hok:∀ x∈c.operands.toList,ev (Ze R le) x=Z0 R true (le.ev x))(h:lcallOp P call c le st=some (v,st')):
  acall P c (Ze R le) s (fun r t=>LPost P R st v st' r t):=by
 have args:∀ x∈c.args.toList,ev (Ze R le) x=Z0 R true (le.ev x):=fun x hx=>hok x (by
  unfold Call.operands;simp;exact .inr (by simpa using hx))
 unfold lcallOp at h
 split at h
 ·rename_i bi hcal
  unfold acall;simp only [hcal];generalize c.args.toList=xs at *;generalize c.argTypes.toList=ts at *
  split at h <;> try (simp at h;done)
  ·rename_i x t
   obtain ⟨w,hw,e⟩:=Option.map_eq_some_iff.1 h;simp at e;obtain ⟨rfl,rfl⟩:=e
   simp only;rw [args x (by simp)]
   exact llen_sound R hs hw (LPost.pure hs (Wk.refl _) (by rw [llen_refs hw];simp))
  ·rename_i x y t t'
   split at h <;> try (simp at h;done)
   rename_i ht;subst ht;simp only;rw [args x (by simp),args y (by simp)]
   exact ⟨trivial,lappend_sound hs h⟩
  ·rename_i x y t t'
   simp only;rw [args x (by simp),args y (by simp)]
   exact lcopy_sound hs h
  ·rename_i x y
   obtain ⟨w,hw,e⟩:=Option.map_eq_some_iff.1 h;simp at e;obtain ⟨rfl,rfl⟩:=e
   simp only;rw [args x (by simp),args y (by simp)]
   refine lmm_max R hw (LPost.pure hs (Wk.refl _) ?_);unfold lmm at hw
   split at hw <;> simp at hw
   subst hw;simp [Z5]
  ·rename_i x y z
   obtain ⟨w,hw,e⟩:=Option.map_eq_some_iff.1 h;simp at e;obtain ⟨rfl,rfl⟩:=e
   simp only;rw [args x (by simp),args y (by simp),args z (by simp)]
   refine lmm_max3 R hw (LPost.pure hs (Wk.refl _) ?_);obtain ⟨w2,_,hw2⟩:=Option.bind_eq_some_iff.1 hw;unfold lmm at hw2
   split at hw2 <;> simp at hw2
   subst hw2;simp [Z5]
  ·rename_i x y
   obtain ⟨w,hw,e⟩:=Option.map_eq_some_iff.1 h;simp at e;obtain ⟨rfl,rfl⟩:=e
   simp only;rw [args x (by simp),args y (by simp)]
   refine lmm_min R hw (LPost.pure hs (Wk.refl _) ?_);unfold lmm at hw
   split at hw <;> simp at hw
   subst hw;simp [Z5]
  ·rename_i x y t t'
   obtain ⟨w,hw,e⟩:=Option.map_eq_some_iff.1 h;simp at e;obtain ⟨rfl,rfl⟩:=e
   simp only;rw [args x (by simp),args y (by simp)]
   exact ldelete_sound hs hw
 ·rename_i hcal
  split at h <;> try (simp at h;done)
  rename_i f as hf;refine fnCall_acall hf (doCall_meets hc h hs ?_);unfold fnCall at hf
  split at hf <;> try (simp at hf;done)
  ·split at hf <;> try (simp at hf;done)
   rename_i x _ _ g first caps hx
   split at hf <;> simp at hf
   obtain ⟨rfl,rfl⟩:=hf;intro b hb;have hr:=ev_refs he x;rw [hx] at hr;simp only [refsL_append,List.mem_append] at hb
   rcases hb with hb | hb | hb
   ·exact hr b (by simp [Z5,hb])
   ·exact evs_refs he _ b hb
   ·exact hr b (by simp [Z5,hb])
  ·split at hf <;> try (simp at hf;done)
   rename_i r m _ _ t y hx
   split at hf <;> simp at hf
   obtain ⟨rfl,rfl⟩:=hf;intro b hb;have hr:=ev_refs he r;rw [hx] at hr;simp only [Z9,List.mem_append] at hb;exact hb.elim (fun hb=>hr b (by simp [Z5,hb])) (evs_refs he _ b)
theorem lbin_refs{P:Program}{op:BinOp}{t:TypeId}{yo:Operand}{x y v:LV}(h:lbin P op t yo x y=some v):Z5 v=[]:=by
 have he:∀ {b:Bool} {v:LV},eqOp op b=some v->Z5 v=[]:=fun hb=>by
  rcases Yt hb with ⟨_,rfl⟩ | ⟨_,rfl⟩ <;> simp [Z5]
 have hb:∀ {o:Option Bool} {v:LV},o.bind (eqOp op)=some v->Z5 v=[]:=fun h=>by
  obtain ⟨b,_,h⟩:=Option.bind_eq_some_iff.1 h;exact he h
 have hsh:∀ {op:BinOp} {k:IntKind} {a b:Int} {v:LV},lshift op k a b=some v->Z5 v=[]:=fun h=>by
  unfold lshift at h
  split at h <;> try (simp at h;done)
  split at h <;> simp at h <;> subst h <;> simp [Z5]
 unfold lbin at h
 split at h
 ·split at h
  ·exact hsh h
  ·exact hsh h
  ·split at h <;> try (simp at h;done)
   unfold lint at h
   split at h <;> (try simp at h) <;> first | (subst h;simp [Z5];done) | (obtain ⟨_,rfl⟩:=h;simp [Z5]) | (split at h <;> simp at h <;> subst h <;> simp [Z5])
 ·split at h
  ·exact he h
  ·simp at h
 ·split at h <;> (try simp at h) <;> first | (subst h;simp [Z5];done) | (obtain ⟨_,rfl⟩:=h;simp [Z5])
 ·exact hb h
 ·exact hb h
 ·exact hb h
 ·split at h
  ·exact hb h
  ·simp at h
 ·exact hb h
 ·exact hb h
 ·simp at h
theorem lop_sound{P:Program}{call:Zz}(hc:Yq P call){o:Op}{le:LEnv}{st st':St}{v:LV}{R:Inst}{s:Hp}(hs:SRel P R st s)(he:EWS st.next le)(h:lop P call o le st=some (v,st')):
  aop P o (Ze R le) s (fun r t=>LPost P R st v st' r t):=by
 unfold lop at h
 split at h <;> try (simp at h;done)
 rename_i hok;have ok:∀ x∈o.operands.toList,ev (Ze R le) x=Z0 R true (le.ev x):=fun x hx=>okOpd_ev (List.all_eq_true.1 hok x hx)
 have rf:∀ x:Operand,∀ b∈Z5 (le.ev x),b<st.next:=fun x=>ev_refs he x
 unfold lopB at h
 split at h <;> try (simp at h;done)
 ·rename_i x;simp at h;obtain ⟨rfl,rfl⟩:=h
  exact LPost.pure hs (ev_wk R le x) (rf x)
 ·rename_i x;simp at h;obtain ⟨rfl,rfl⟩:=h
  exact LPost.pure hs (ev_wk R le x) (rf x)
 ·
  rename_i c x y
  split at h <;> try (simp at h;done)
  rename_i b hb;obtain ⟨w,hw,e⟩:=Option.map_eq_some_iff.1 h;simp at e;obtain ⟨rfl,rfl⟩:=e
  simp only [aop];rw [ok c (by simp [Op.operands]),ok x (by simp [Op.operands]),ok y (by simp [Op.operands]),hb]
  simp only [Z0];refine lpick_sound R hw (LPost.pure hs (Wk.refl _) ?_);unfold Wa at hw
  split at hw
  ·injection hw with hw;subst hw;simp [Z5]
  ·injection hw with hw;subst hw
   cases b
   ·exact rf y
   ·exact rf x
 ·simp only [aop];exact lalloc_sound hs h
 ·rename_i t x
  simp only [aop];rw [ok x (by simp [Op.operands])]
  exact lbox_sound hs (rf x) h
 ·rename_i t ps
  obtain ⟨w,hw,e⟩:=Option.map_eq_some_iff.1 h;simp at e;obtain ⟨rfl,rfl⟩:=e
  simp only [aop];exact lbuild_sound hw (LPost.pure hs (Wk.refl _) (lbuild_refs he hw))
 ·simp only [aop];exact lbuildSlice_sound hs he h
 ·rename_i t x
  simp only [aop];rw [ok x (by simp [Op.operands])]
  exact aloadG_of (lload_sound hs (rf x) h)
 ·rename_i t x y
  obtain ⟨w,hw,e⟩:=Option.map_eq_some_iff.1 h;simp at e;obtain ⟨rfl,rfl⟩:=e
  simp only [aop];rw [ok x (by simp [Op.operands]),ok y (by simp [Op.operands])]
  exact lstore_sound hs (rf y) hw
 ·rename_i x
  simp only [aop];rw [ok x (by simp [Op.operands])]
  split at h <;> simp at h
  ·rename_i b o hx
   obtain ⟨rfl,rfl⟩:=h
   rw [hx];simp only [Z0];exact LPost.pure hs (by simp only [Z0];exact Wk.refl _) (by rw [<- hx];exact rf x)
  ·rename_i k b i o hx
   obtain ⟨rfl,rfl⟩:=h
   rw [hx];simp only [Z0];exact LPost.pure hs (by simp only [Z0];exact Wk.refl _) (by rw [<- hx];exact rf x)
  ·rename_i u hx
   obtain ⟨rfl,rfl⟩:=h
   rw [hx];simp only [Z0];exact LPost.pure hs (by simp only [Z0];exact Wk.refl _) (by rw [<- hx];exact rf x)
 ·rename_i bop t x y yt
  obtain ⟨w,hw,e⟩:=Option.map_eq_some_iff.1 h;simp at e;obtain ⟨rfl,rfl⟩:=e
  simp only [aop];rw [ok x (by simp [Op.operands]),ok y (by simp [Op.operands])]
  exact lbin_sound R hw (LPost.pure hs (Wk.refl _) (by rw [lbin_refs hw];simp))
 ·rename_i uop t x
  obtain ⟨w,hw,e⟩:=Option.map_eq_some_iff.1 h;simp at e;obtain ⟨rfl,rfl⟩:=e
  simp only [aop];rw [ok x (by simp [Op.operands])]
  refine lun_sound R hw (LPost.pure hs (Wk.refl _) ?_);unfold lun at hw
  split at hw <;> simp at hw <;> subst hw <;> simp [Z5]
 ·rename_i src dst x
  obtain ⟨w,hw,e⟩:=Option.map_eq_some_iff.1 h;simp at e;obtain ⟨rfl,rfl⟩:=e
  simp only [aop];rw [ok x (by simp [Op.operands])]
  refine lconv_sound R hw (LPost.pure hs (Wk.refl _) ?_);unfold lconv at hw
  split at hw <;> try (simp at hw;done)
  ·split at hw <;> simp at hw;subst hw;simp [Z5]
  ·split at hw <;> try (simp at hw;done)
   split at hw <;> try (simp at hw;done)
   obtain ⟨bs,_,rfl⟩:=Option.map_eq_some_iff.1 hw;simp [Z5]
 ·
  rename_i t x
  split at h <;> simp at h
  rename_i hi;obtain ⟨rfl,rfl⟩:=h
  simp only [aop];rw [ok x (by simp [Op.operands])]
  exact ⟨hi.1,LPost.pure hs (by simp only [Z0];exact Wk.refl _) (by simpa [Z5] using rf x)⟩
 ·
  rename_i f first caps
  split at h <;> simp at h
  rename_i hi;obtain ⟨rfl,rfl⟩:=h
  simp only [aop,amakeFunc];obtain ⟨p,h1⟩:=caps_flat R hi.1;obtain ⟨q,h2⟩:=caps_flat R hi.2;rw [evs_toList hi.1,evs_toList hi.2,h1,h2];refine LPost.pure hs (by simp only [Z0,h1,h2,W8];exact Wk.refl _) ?_
  intro b hb;simp only [Z5,List.mem_append] at hb;exact hb.elim (evs_refs he _ b) (evs_refs he _ b)
 ·
  rename_i t r
  split at h <;> simp at h
  rename_i k el i hm hr;obtain ⟨rfl,rfl⟩:=h
  simp only [aop,amakeMap,hm];have:Wq (r.map (ev (Ze R le)))=some i:=by
   have e:r.map (ev (Ze R le))=(r.map le.ev).map (Z0 R true):=by
    cases r with
    | none=>rfl
    | some x=>simp [ok x (by simp [Op.operands])]
   rw [e];exact optI_sound R hr
  rw [this];exact fun b hb=>makeMap_sound hs k b hb
 ·rename_i t l c
  simp only [aop];rw [ok l (by simp [Op.operands]),ok c (by simp [Op.operands])]
  exact lmakeSlice_sound hs h
 ·
  rename_i t x lo hi mx;obtain ⟨w,hw,e⟩:=Option.map_eq_some_iff.1 h;simp at e;obtain ⟨rfl,rfl⟩:=e
  simp only [aop];have eo:∀ y:Option Operand,(∀ z,y=some z->z∈(Op.slice t x lo hi mx).operands.toList)->y.map (ev (Ze R le))=(y.map le.ev).map (Z0 R true):=fun y hy=>by
   cases y with
   | none=>rfl
   | some z=>simp [ok z (hy z rfl)]
  rw [ok x (by simp [Op.operands]),eo lo (by intro z hz;subst hz;simp [Op.operands]),eo hi (by intro z hz;subst hz;simp [Op.operands]),eo mx (by intro z hz;subst hz;simp [Op.operands])]
  exact lslice_sound R hs hw fun r hr=>LPost.pure hs hr fun b hb=>rf x b (lslice_refs hw b hb)
 ·rename_i t x f
  obtain ⟨w,hw,e⟩:=Option.map_eq_some_iff.1 h;simp at e;obtain ⟨rfl,rfl⟩:=e
  simp only [aop];rw [ok x (by simp [Op.operands])]
  exact lfieldAddr_sound R hw (LPost.pure hs (Wk.refl _) fun b hb=>rf x b (lfieldAddr_refs hw b hb))
 ·rename_i t x f
  obtain ⟨w,hw,e⟩:=Option.map_eq_some_iff.1 h;simp at e;obtain ⟨rfl,rfl⟩:=e
  simp only [aop];rw [ok x (by simp [Op.operands])]
  exact lfield_sound R hw (LPost.pure hs (Wk.refl _) fun b hb=>rf x b (lfield_refs hw b hb))
 ·rename_i t x i
  obtain ⟨w,hw,e⟩:=Option.map_eq_some_iff.1 h;simp at e;obtain ⟨rfl,rfl⟩:=e
  simp only [aop];rw [ok x (by simp [Op.operands]),ok i (by simp [Op.operands])]
  exact lindexAddr_sound R hw (LPost.pure hs (Wk.refl _) fun b hb=>rf x b (lindexAddr_refs hw b hb))
 ·rename_i t x i
  obtain ⟨w,hw,e⟩:=Option.map_eq_some_iff.1 h;simp at e;obtain ⟨rfl,rfl⟩:=e
  simp only [aop];rw [ok x (by simp [Op.operands]),ok i (by simp [Op.operands])]
  exact lindex_sound R hw (LPost.pure hs (Wk.refl _) fun b hb=>rf x b (lindex_refs hw b hb))
 ·rename_i t m i c
  obtain ⟨w,hw,e⟩:=Option.map_eq_some_iff.1 h;simp at e;obtain ⟨rfl,rfl⟩:=e
  simp only [aop];rw [ok m (by simp [Op.operands]),ok i (by simp [Op.operands])]
  exact llookup_sound hs hw (LPost.pure hs (Wk.refl _) (by rw [llookup_refs hw];simp))
 ·rename_i t m i x
  obtain ⟨w,hw,e⟩:=Option.map_eq_some_iff.1 h;simp at e;obtain ⟨rfl,rfl⟩:=e
  simp only [aop];rw [ok m (by simp [Op.operands]),ok i (by simp [Op.operands]),ok x (by simp [Op.operands])]
  exact lmapUpdate_sound hs hw
 ·rename_i x xt as c
  obtain ⟨w,hw,e⟩:=Option.map_eq_some_iff.1 h;simp at e;obtain ⟨rfl,rfl⟩:=e
  simp only [aop];rw [ok x (by simp [Op.operands])]
  exact lassert_sound R hw (LPost.pure hs (Wk.refl _) fun b hb=>rf x b (lassert_refs hw b hb))
 ·rename_i x i
  obtain ⟨w,hw,e⟩:=Option.map_eq_some_iff.1 h;simp at e;obtain ⟨rfl,rfl⟩:=e
  simp only [aop];rw [ok x (by simp [Op.operands])]
  exact lextract_sound R hw (LPost.pure hs (Wk.refl _) fun b hb=>rf x b (lextract_refs hw b hb))
 ·rename_i c
  simp only [aop];exact lcallB_sound hc hs he (fun x hx=>ok x (by simpa [Op.operands] using hx)) h
def SW{ι:Type}(u u':ι->AV)(s s':Hp):Prop:=
 ∀ I w (x:ι->Value),(∀ i,RV I (x i) (u i))->Rel I s w->∃ J,(∀ i,RV J (x i) (u' i))/\Rel J s' w/\Ext I s w J s' w
theorem SW.refl{ι:Type}(u:ι->AV)(s:Hp):SW u u s s:=fun I w x h1 h2=>⟨I,h1,h2,Ext.refl _ _ _⟩
theorem SW.trans{ι:Type}{u v w:ι->AV}{a b c:Hp}(h:SW u v a b)(k:SW v w b c):SW u w a c:=fun I w x h1 h2=>by
 obtain ⟨J,g1,g2,g3⟩:=h I w x h1 h2;obtain ⟨L,q1,q2,q3⟩:=k J w x g1 g2;exact ⟨L,q1,q2,g3.trans q3⟩
theorem SW.wk{ι:Type}{u v:ι->AV}{s s':Hp}(h:∀ i,Wk (u i) (v i))(hs:HpWk s s'):SW u v s s':=fun I w x h1 h2 =>
 ⟨I,fun i=>h i I _ (h1 i),Rel.wk h2 hs,Ext.wk' (Ext.refl _ _ _) hs⟩
def BW(F:Hp)(u v:AV):Prop:=∀ I w x,(∀ b o,(b,o)∈F->ObjRel I w b o)->I.le (I.with F w)->RV I x u->RV (I.with F w) x v
theorem BW.refl(F:Hp)(u:AV):BW F u u:=fun I w x _ h2 h3=>h3.mono h2
theorem BW.of_bor{F:Hp}{u v:AV}(h:Bor F u v):BW F u v:=fun I w x h1 h2 h3=>h.rv h1 h2 h3
theorem BW.wk{F:Hp}{u v w:AV}(h:BW F u v)(k:Wk v w):BW F u w:=fun I W x h1 h2 h3=>k _ _ (h I W x h1 h2 h3)
theorem BW.any(F:Hp)(u:AV)(ds:List Nat):BW F u (.any ds):=fun I w x _ _ _=>.any x ds
inductive BWL (F:Hp):List AV->List AV->Prop where
 | nil:BWL F [] []
 | cons {u v:AV} {us vs:List AV} (h:BW F u v) (k:BWL F us vs):BWL F (u::us) (v::vs)
theorem BWL.length{F:Hp}{us vs:List AV}(h:BWL F us vs):us.length=vs.length:=by
 induction h with
 | nil=>rfl
 | cons h k ih=>simp [ih]
theorem BWL.get{F:Hp}{us vs:List AV}(h:BWL F us vs):∀ (j:Nat) (v:AV),vs[j]? = some v->∃ u,us[j]? = some u/\BW F u v:=by
 induction h with
 | nil=>intro j v hv;simp at hv
 | cons h k ih =>
  intro j v hv
  cases j with
  | zero=>simp at hv;subst hv;exact ⟨_,rfl,h⟩
  | succ j=>exact ih j v (by simpa using hv)
theorem BWL.refl(F:Hp):∀ us,BWL F us us
 | []=>.nil
 | u::us=>.cons (BW.refl F u) (BWL.refl F us)
theorem BW.agg{F:Hp}{us vs:List AV}(h:BWL F us vs):BW F (.agg us) (.agg vs):=fun I w x h1 h2 r=>by
 cases r with
 | agg cs _ hl hr =>
  exact .agg cs vs (by rw [hl,h.length]) fun j v hv=>by
   obtain ⟨u,hu,hw⟩:=h.get j v hv;exact hw I w _ h1 h2 (hr j u hu)
theorem BW.tup{F:Hp}{us vs:List AV}(h:BWL F us vs):BW F (.tup us) (.tup vs):=fun I w x h1 h2 r=>by
 cases r with
 | tup cs _ hl hr =>
  exact .tup cs vs (by rw [hl,h.length]) fun j v hv=>by
   obtain ⟨u,hu,hw⟩:=h.get j v hv;exact hw I w _ h1 h2 (hr j u hu)
theorem BW.mkIfc{F:Hp}{u v:AV}(t:TypeId)(h:BW F u v):BW F (mkIfc t u) (mkIfc t v):=fun I w x h1 h2 r=>by
 have key:∃ y,x=.iface t y/\RV I y u:=by
  cases u <;> simp only [Eng.mkIfc] at r
  ·obtain rfl:=r.of_v;exact ⟨_,rfl,.v _⟩
  all_goals (cases r with | ifc _ y _ hr=>exact ⟨y,rfl,hr⟩)
 obtain ⟨y,rfl,hy⟩:=key;exact RV.mkIfc t (h I w y h1 h2 hy)
inductive OBW (F:Hp):AObj->AObj->Prop where
 | refl (o:AObj):OBW F o o
 | cells (e:TypeId) {us vs:List AV} (n:Nat) (h:BWL F us vs):OBW F (.cells e us n) (.cells e vs n)
theorem OBW.rel{F:Hp}{I:Imm}{w:World}{b:Nat}{o o':AObj}(h:OBW F o o')(h1:∀ b o,(b,o)∈F->ObjRel I w b o)(h2:I.le (I.with F w))(hr:ObjRel I w b o):ObjRel (I.with F w) w b o':=by
 cases h with
 | refl=>exact hr.move rfl h2
 | cells e n h =>
  obtain ⟨c,hc⟩:=hr;refine ⟨c,hc.block,hc.full,by rw [<- h.length];exact hc.le,fun j v hv=>?_⟩
  obtain ⟨u,hu,hw⟩:=h.get j v hv;obtain ⟨x,g1,g2⟩:=hc.cell j u hu;exact ⟨x,g1,hw I w x h1 h2 g2⟩
theorem SW.freeze{ι:Type}{u u':ι->AV}{s s':Hp}(F:Hp)(hF:∀ p,p∈F->p∈s)(hu:∀ i,BW F (u i) (u' i))(hs':∀ p,p∈s'->∃ o,(p.1,o)∈s/\p.1∉F.keys/\OBW F o p.2)(hn:s.keys.Nodup->s'.keys.Nodup):SW u u' s s':=by
 intro I w x hx hsr;have hobj:∀ b o,(b,o)∈F->ObjRel I w b o:=fun b o hb=>hsr.obj b o (hF _ hb)
 have hfree:∀ b,b∈F.keys->I b=none:=fun b hb=>hsr.free b (Xm hF b hb)
 have hle:=Imm.le_with (w:=w) hfree;have hkeys:∀ b,b∈s'.keys->b∈s.keys/\b∉F.keys:=fun b hb=>by
  obtain ⟨p,hp,rfl⟩:=List.mem_map.1 hb;obtain ⟨o,h1,h2,_⟩:=hs' p hp;exact ⟨List.mem_map.2 ⟨_,h1,rfl⟩,h2⟩
 refine ⟨I.with F w,fun i=>hu i I w _ hobj hle (hx i),⟨fun b o hb=>?_,fun b o hb=>?_,fun b hb=>?_,hn hsr.nodup,hsr.gnd.mono hle⟩,
  ⟨rfl,rfl,rfl,Nat.le_refl _,fun _ _ _=>rfl,hle,fun b hb=>.inr (hkeys b hb).1,fun b h1 h2=>?_⟩⟩
 ·unfold Imm.with at hb
  split at hb
  ·exact hb
  ·exact hsr.imm b o hb
 ·obtain ⟨o0,h1,h2,h3⟩:=hs' _ hb
  exact h3.rel hobj hle (hsr.obj b o0 h1)
 ·obtain ⟨h1,h2⟩:=hkeys b hb
  unfold Imm.with
  rw [if_neg h2];exact hsr.free b h1
 ·unfold Imm.with at h2
  split at h2
  ·rename_i hb;exact .inr (Xm hF b hb)
  ·exact absurd h1 h2
theorem OpsS.sw{P:Program}{ops l:List Oper}{e e':Env}{s s':Hp}{K:Env->Hp->Prop}(h:OpsS P ops l e' s' K)(hw:SW e e' s s'):OpsS P ops l e s K:=
 fun ro n I w a h1 h2 h3 Q hq=>by
  obtain ⟨J,g1,g2,g3⟩:=hw I w (fun t=>a.tmps.getD t undef) h1.rv h2
  exact h ro n J w a ⟨h1.size,h1.defers,g1⟩ g2 h3 Q fun e1 t J' a' w' q1 q2 q3 q4=>hq e1 t J' a' w' q1 q2 (g3.trans q3) q4
theorem OpS.sw{P:Program}{o:Oper}{e e':Env}{s s':Hp}{K:AV->Hp->Prop}(h:OpS P o e' s' K)(hw:SW e e' s s'):OpS P o e s K:=
 fun n I w a h1 h2 next Q hn=>by
  obtain ⟨J,g1,g2,g3⟩:=hw I w (fun t=>a.tmps.getD t undef) h1.rv h2
  exact h n J w a ⟨h1.size,h1.defers,g1⟩ g2 next Q fun v r t J' w' q1 q2 q3 q4=>hn v r t J' w' q1 q2 (g3.trans q3) q4
theorem AWm.sw{P:Program}{ro:Option Nat}{n:Nat}{c:Code}{e e':Env}{s s':Hp}{Q:AX->Env->Hp->Prop}(h:AW ro P n c e' s' Q)(hw:SW e e' s s'):AW ro P n c e s Q:=by
 unfold AW at h ⊢;intro ds I w a h1 h2 h3;obtain ⟨J,g1,g2,g3⟩:=hw I w (fun t=>a.tmps.getD t undef) h1.rv h2
 exact wpIn_mono (h ds J w a ⟨h1.size,h1.defers,g1⟩ g2 (h3.after g3)) fun x a' w' ⟨ax,e1,t,J',ds',q1,q2,q3,q4,q5,q6⟩=>⟨ax,e1,t,J',ds',q1,q2,q3,q4,g3.trans q5,q6⟩
theorem Meets.sw{P:Program}{f:FuncId}{as:List AV}{s:Hp}{K:AV->Hp->Prop}(h:Meets P f as s (fun r t=>∃ r' t',SW (fun _:Unit=>r) (fun _=>r') t t'/\K r' t')):Meets P f as s K:=by
 unfold Meets at h ⊢;intro I w vs hs hv;refine (h I w vs hs hv).mono fun v w' ⟨r,t,J,⟨r',t',hw,hk⟩,h2,h3,h4⟩=>?_
 obtain ⟨J',g1,g2,g3⟩:=hw J w' (fun _=>v) (fun _=>h3) h2
 exact ⟨r',t',J',hk,g2,g1 (),h4.trans g3⟩
mutual
theorem fsub_bw{R:Inst}{F:Hp}{b k0:Nat}{xs:List LV}{c:Bool}(key:∀ k i n cc,k=k0->i+n<=xs.length->W0 n cc=true->BW F (Y0 R k b i n cc) (.sl k (Z1 R false ((xs.drop i).take n)))):
  ∀ v:LV,BW F (Z0 R true v) (Z0 R true (fsub b k0 xs v))
 | .int _ _=>BW.refl _ _
 | .bool _=>BW.refl _ _
 | .str _=>BW.refl _ _
 | .nilp=>BW.refl _ _
 | .ptr _ _=>BW.refl _ _
 | .pel _ _ _ _=>BW.refl _ _
 | .irp _=>BW.refl _ _
 | .nils=>BW.refl _ _
 | .sl k b' i n cc=>by
  simp only [fsub]
  by_cases hb:b'=b
  ·subst hb
   rw [if_pos rfl]
   split
   ·rename_i hc
    simp only [Z0];exact key k i n cc hc.1 hc.2.1 hc.2.2
   ·simp only [Z0];exact BW.any _ _ _
  ·rw [if_neg hb];exact BW.refl _ _
 | .asl _ _ _ _=>BW.refl _ _
 | .isl _ _=>BW.refl _ _
 | .own _ _ _=>BW.refl _ _
 | .nilm=>BW.refl _ _
 | .map _=>BW.refl _ _
 | .omap _ _ _=>BW.refl _ _
 | .nili=>BW.refl _ _
 | .ifc t x=>by simp only [fsub,Z0];exact BW.mkIfc t (fsub_bw (c:=c) key x)
 | .nilf=>BW.refl _ _
 | .fn _ _ _=>BW.refl _ _
 | .yld _=>BW.refl _ _
 | .agg ys=>by simp only [fsub,Z0];exact BW.agg (fsubL_bw (c:=c) key ys)
 | .tup ys=>by simp only [fsub,Z0];exact BW.tup (fsubL_bw (c:=c) key ys)
 | .any=>BW.refl _ _
theorem fsubL_bw{R:Inst}{F:Hp}{b k0:Nat}{xs:List LV}{c:Bool}(key:∀ k i n cc,k=k0->i+n<=xs.length->W0 n cc=true->BW F (Y0 R k b i n cc) (.sl k (Z1 R false ((xs.drop i).take n)))):
  ∀ vs:List LV,BWL F (Z1 R true vs) (Z1 R true (fsubL b k0 xs vs))
 | []=>by simp only [Z1,fsubL];exact .nil
 | v::vs=>by simp only [Z1,fsubL];exact .cons (fsub_bw (c:=c) key v) (fsubL_bw (c:=c) key vs)
end
mutual
theorem fsub_refs(b k0:Nat)(xs:List LV):∀ v:LV,∀ r∈Z5 (fsub b k0 xs v),r∈Z5 v
 | .int _ _,r,h=>h
 | .bool _,r,h=>h
 | .str _,r,h=>h
 | .nilp,r,h=>h
 | .ptr _ _,r,h=>h
 | .pel _ _ _ _,r,h=>h
 | .irp _,r,h=>h
 | .nils,r,h=>h
 | .sl k b' i n cc,r,h=>by
  simp only [fsub] at h
  split at h
  ·split at h <;> simp [Z5] at h
  ·exact h
 | .asl _ _ _ _,r,h=>h
 | .isl _ _,r,h=>h
 | .own _ _ _,r,h=>h
 | .nilm,r,h=>h
 | .map _,r,h=>h
 | .omap _ _ _,r,h=>h
 | .nili,r,h=>h
 | .ifc t x,r,h=>by simp only [fsub,Z5] at h ⊢;exact fsub_refs b k0 xs x r h
 | .nilf,r,h=>h
 | .fn _ _ _,r,h=>h
 | .yld _,r,h=>h
 | .agg ys,r,h=>by simp only [fsub,Z5] at h ⊢;exact fsubL_refs b k0 xs ys r h
 | .tup ys,r,h=>by simp only [fsub,Z5] at h ⊢;exact fsubL_refs b k0 xs ys r h
 | .any,r,h=>h
theorem fsubL_refs(b k0:Nat)(xs:List LV):∀ vs:List LV,∀ r∈Z9 (fsubL b k0 xs vs),r∈Z9 vs
 | [],r,h=>h
 | v::vs,r,h=>by
  simp only [fsubL,Z9,List.mem_append] at h ⊢;exact h.imp (fsub_refs b k0 xs v r) (fsubL_refs b k0 xs vs r)
end
theorem fsubL_length(b k0:Nat)(xs:List LV):∀ vs:List LV,(fsubL b k0 xs vs).length=vs.length
 | []=>rfl
 | v::vs=>by simp [fsubL,fsubL_length b k0 xs vs]
theorem fsubL_get(b k0:Nat)(xs:List LV):∀ (vs:List LV) (t:Nat),LEnv.get (fsubL b k0 xs vs) t=fsub b k0 xs (LEnv.get vs t)
 | [],t=>by simp [fsubL,LEnv.get,fsub]
 | v::vs,0=>by simp [fsubL,LEnv.get]
 | v::vs,t+1=>by
  have:=fsubL_get b k0 xs vs t;simpa [fsubL,LEnv.get] using this
theorem fsub_plain(b k0:Nat)(xs:List LV){c:LV}(h:c.plain=true):(fsub b k0 xs c).plain=true:=by
 cases c <;> simp only [fsub] <;> first | exact h | rfl | (split <;> first | rfl | (split <;> rfl))
inductive HBW (F:Hp):Hp->Hp->Prop where
 | nil:HBW F [] []
 | cons (k:Nat) {o o':AObj} {t t':Hp} (h:OBW F o o') (r:HBW F t t'):HBW F ((k,o)::t) ((k,o')::t')
theorem HBW.refl(F:Hp):∀ t:Hp,HBW F t t
 | []=>.nil
 | (k,o)::t=>.cons k (.refl o) (HBW.refl F t)
theorem HBW.append{F a b c d:Hp}(h:HBW F a b)(k:HBW F c d):HBW F (a++c) (b++d):=by
 induction h with
 | nil=>exact k
 | cons n h _ ih=>exact .cons n h ih
theorem HBW.keys{F a b:Hp}(h:HBW F a b):a.keys=b.keys:=by
 induction h with
 | nil=>rfl
 | cons n h _ ih=>simp [Hp.keys] at ih ⊢;exact ih
theorem HBW.mem{F a b:Hp}(h:HBW F a b):∀ p,p∈b->∃ o,(p.1,o)∈a/\OBW F o p.2:=by
 induction h with
 | nil=>intro p hp;simp at hp
 | cons n h _ ih =>
  intro p hp
  rcases List.mem_cons.1 hp with rfl | hp
  ·exact ⟨_,List.mem_cons_self,h⟩
  ·obtain ⟨o,h1,h2⟩:=ih p hp
   exact ⟨o,List.mem_cons_of_mem _ h1,h2⟩
theorem CellsE.fsub{P:Program}{R:Inst}{F:Hp}{b k0:Nat}{xs:List LV}(key:∀ v,BW F (Z0 R true v) (Z0 R true (fsub b k0 xs v))){cs:List LV}{us:List AV}{t:Hp}(h:CellsE P R cs us t):
  ∃ us',CellsE P R (fsubL b k0 xs cs) us' t/\BWL F us us':=by
 induction h with
 | nil=>exact ⟨[],.nil,.nil⟩
 | cons h k ih =>
  obtain ⟨us',h1,h2⟩:=ih
  cases h with
  | ownNil e k=>exact ⟨_,.cons (.ownNil e k) h1,.cons (BW.refl _ _) h2⟩
  | own e k ys q cap hf hok=>exact ⟨_,.cons (.own e k ys q cap hf hok) h1,.cons (BW.refl _ _) h2⟩
  | omap k ks vs q es' hm=>exact ⟨_,.cons (.omap k ks vs q es' hm) h1,.cons (BW.refl _ _) h2⟩
  | other _ hc=>exact ⟨_,.cons (.other _ (fsub_plain b k0 xs hc)) h1,.cons (key _) h2⟩
theorem Ents.fsub{P:Program}{R:Inst}{F:Hp}{b k0:Nat}{xs:List LV}(key:∀ v,BW F (Z0 R true v) (Z0 R true (fsub b k0 xs v))){l:List (Nat × LObj)}{s:Hp}(h:Ents P R l s):
  ∃ s',Ents P R (fsubO b k0 xs l) s'/\HBW F s s':=by
 induction h with
 | nil=>exact ⟨[],.nil,.nil⟩
 | cons h k ih =>
  obtain ⟨s',h1,h2⟩:=ih
  cases h with
  | box e cs us t hc =>
   obtain ⟨us',g1,g2⟩:=hc.fsub key;refine ⟨_,.cons (.box e _ us' t g1) h1,?_⟩;rw [<- g2.length];exact HBW.append (.cons _ (.cells e _ g2) (HBW.refl _ _)) h2
  | rowNil e k hz=>exact ⟨_,.cons (.rowNil e k hz) h1,h2⟩
  | row e k ys hz ok=>exact ⟨_,.cons (.row e k ys hz ok) h1,HBW.append (HBW.refl _ _) h2⟩
  | map k es es' hm=>exact ⟨_,.cons (.map k es es' hm) h1,HBW.append (HBW.refl _ _) h2⟩
theorem fsubO_mem(b k0:Nat)(xs:List LV)(P:Program):∀ (l:List (Nat × LObj)) (p:Nat × LObj),p∈fsubO b k0 xs l->∃ q∈l,q.1=p.1/\∀ r∈Y1 P p.2,r∈Y1 P q.2
 | [],p,h=>by simp [fsubO] at h
 | (k,o)::l,p,h=>by
  have rest:∀ {q:Nat × LObj},q∈fsubO b k0 xs l->∃ q'∈(k,o)::l,q'.1=q.1/\∀ r∈Y1 P q.2,r∈Y1 P q'.2:=fun hq=>by
   obtain ⟨q',h1,h2⟩:=fsubO_mem b k0 xs P l _ hq;exact ⟨q',List.mem_cons_of_mem _ h1,h2⟩
  cases o with
  | box e cs =>
   simp only [fsubO] at h
   rcases List.mem_cons.1 h with rfl | h
   ·exact ⟨_,List.mem_cons_self,rfl,fun r hr=>by simp only [Y1] at hr ⊢;exact fsubL_refs b k0 xs cs r hr⟩
   ·exact rest h
  | row e k ys =>
   simp only [fsubO] at h
   rcases List.mem_cons.1 h with rfl | h
   ·exact ⟨_,List.mem_cons_self,rfl,fun r hr=>hr⟩
   ·exact rest h
  | map k es =>
   simp only [fsubO] at h
   rcases List.mem_cons.1 h with rfl | h
   ·exact ⟨_,List.mem_cons_self,rfl,fun r hr=>hr⟩
   ·exact rest h
  | lp env ps a c d pp =>
   simp only [fsubO] at h
   rcases List.mem_cons.1 h with rfl | h
   ·exact ⟨_,List.mem_cons_self,rfl,fun r hr=>hr⟩
   ·exact rest h
theorem fsubO_keys(b k0:Nat)(xs:List LV):∀ (l:List (Nat × LObj)),(fsubO b k0 xs l).map (·.1)=l.map (·.1)
 | []=>rfl
 | (k,o)::l=>by cases o <;> simp [fsubO,fsubO_keys b k0 xs l]
theorem bor_row{R:Inst}{P:Program}{b e k:Nat}{xs:List LV}(hz:R.z b=false)(ok:RowOk (Y4 P e) k (R.κ b) xs){F:Hp}(hF:(R.ρ b,AObj.cells e ((Z1 R (rlv P e) xs).flatMap cellsOf) (R.κ b*k))∈F)(i n:Nat)(cc:Option Nat)(hin:i+n<=xs.length)(hc:W0 n cc=true):BW F (Y0 R k b i n cc) (.sl k (Z1 R false ((xs.drop i).take n))):=by
 have h1:Bor F (.v (.slice (some ⟨R.ρ b,i*k,none⟩) n (cc.getD (R.κ b-i)))) (.sl k (Z1 R (rlv P e) ((xs.drop i).take n))):=by
  have hlen:((xs.drop i).take n).length=n:=by simp;omega
  refine .row (R.ρ b) (i*k) n _ k (R.κ b*k) e _ _ hF (by rw [Zj,hlen]) ?_ (by have:=ok.big;omega) ?_ ?_
  ·cases cc with
   | none=>simp only [Option.getD_none];have:=ok.le;omega
   | some m=>simpa [W0] using hc
  ·intro j x hx
   rw [instL_get] at hx;obtain ⟨y,hy,rfl⟩:=Option.map_eq_some_iff.1 hx;rw [Zw,Zj];exact ok.cells y (List.mem_of_mem_drop (List.mem_of_mem_take (List.mem_of_getElem? hy)))
  ·rw [flat_drop R _ ok.cells i (by omega),flat_take R _ (fun y hy=>ok.cells y (List.mem_of_mem_drop hy)) n (by simp;omega)]
 have h2:Y0 R k b i n cc=.v (.slice (some ⟨R.ρ b,i*k,none⟩) n (cc.getD (R.κ b-i))):=by
  simp only [Y0,hz,Bool.false_and,Bool.false_eq_true,if_false]
 rw [h2];refine (BW.of_bor h1).wk ?_
 cases rlv P e
 ·exact Wk.refl _
 ·rw [Zu,Zu]
  exact Wk.sl (CWkL.of (Z0 R true) (Z0 R false) _ fun x _=>cwk_dead R x)
theorem frz1_sound{P:Program}{R:Inst}{st:St}{s:Hp}(hs:SRel P R st s){b e k:Nat}{xs:List LV}(hl:st.look b=some (.row e k xs)):
  ∃ s',SRel P R { st with objs:=fsubO b k xs (Yo st.objs b) } s'/\∀ {ι:Type} (f:ι->LV),SW (fun i=>Z0 R true (f i)) (fun i=>Z0 R true (fsub b k xs (f i))) s s':=by
 obtain ⟨t1,t2,ho,h2,hp⟩:=hs.focus hl;have hn:=(Wi hp).nodup_iff.1 hs.nd;have key:∀ v,BW t1 (Z0 R true v) (Z0 R true (fsub b k xs v)):=by
  refine fsub_bw (c:=true) fun k' i n cc hk hin hc=>?_
  subst hk
  cases ho with
  | rowNil _ _ hz =>
   simp at hin;obtain ⟨rfl,rfl⟩:=hin;simp only [Y0,hz,beq_self_eq_true,Bool.and_self,if_true];exact (BW.refl _ _).wk (by simp only [List.drop_nil,List.take_nil,Z1];exact Wk.empty _ _ _)
  | row _ _ _ hz ok=>exact bor_row hz ok (by simp) i n cc hin hc
 obtain ⟨s',g1,g2⟩:=h2.fsub (F:=t1) key;have hkeys:s'.keys=t2.keys:=g2.keys.symm;rw [hpk_append] at hn;obtain ⟨n1,n2,n3⟩:=List.nodup_append.1 hn;refine ⟨s',⟨g1,by rw [hkeys];exact n2,?_,fun p hp'=>?_,fun p hp' r hr=>?_⟩,fun {ι} f=>?_⟩
 ·simp only [fsubO_keys];exact hs.ok.sublist ((Xj _ _).map _)
 ·obtain ⟨q,q1,q2,q3⟩:=fsubO_mem b k xs P _ p hp'
  rw [<- q2];exact hs.lt q ((Xj _ _).subset q1)
 ·obtain ⟨q,q1,q2,q3⟩:=fsubO_mem b k xs P _ p hp'
  exact hs.ws q ((Xj _ _).subset q1) r (q3 r hr)
 ·refine SW.freeze t1 (fun p hp'=>hp.mem_iff.2 (List.mem_append_left _ hp')) (fun i=>key (f i)) (fun p hp'=>?_) (fun _=>by rw [hkeys];exact n2)
  obtain ⟨o,h1,h2⟩:=g2.mem p hp';refine ⟨o,hp.mem_iff.2 (List.mem_append_right _ h1),fun hk=>?_,h2⟩
  exact n3 _ hk _ (List.mem_map.2 ⟨_,h1,rfl⟩) rfl
theorem frz_sound{P:Program}{R:Inst}:∀ (l:List Nat) {le:LEnv} {st:St} {s:Hp},SRel P R st s->EWS st.next le ->
  ∃ s',SRel P R (frz l le st).2 s'/\(frz l le st).2.next=st.next/\EWS st.next (frz l le st).1/\(frz l le st).1.length=le.length/\SW (Ze R le) (Ze R (frz l le st).1) s s'
 | [],le,st,s,hs,he=>⟨s,hs,rfl,he,rfl,SW.refl _ _⟩
 | b::l,le,st,s,hs,he=>by
  unfold frz
  split
  ·rename_i e k xs hl
   obtain ⟨s1,g1,g2⟩:=frz1_sound hs hl;have he1:EWS st.next (fsubL b k xs le):=fun t r hr=>by
    rw [fsubL_get] at hr;exact he t r (fsub_refs b k xs _ r hr)
   obtain ⟨s2,q1,q2,q3,q4,q5⟩:=frz_sound l (st:={ st with objs:=fsubO b k xs (Yo st.objs b) }) g1 he1
   refine ⟨s2,q1,q2,q3,by rw [q4,fsubL_length],SW.trans ?_ q5⟩
   have:=g2 (fun t=>le.get t)
   have e1:Ze R (fsubL b k xs le)=fun t=>Z0 R true (fsub b k xs (le.get t)):=funext fun t=>by unfold Ze;rw [fsubL_get]
   rw [e1];exact this
  ·exact frz_sound l hs he
theorem get_put(le:LEnv)(d:Nat)(v:LV)(t:Nat):(le.put (some d) v).get t=if t=d then (if d<le.length then v else .any) else le.get t:=by
 unfold LEnv.put LEnv.get;simp only [List.getD_eq_getElem?_getD]
 by_cases h:t=d
 ·subst h
  rw [if_pos rfl]
  by_cases hd:t<le.length
  ·rw [if_pos hd,List.getElem?_set_self hd];rfl
  ·rw [if_neg hd,List.getElem?_eq_none (by simp;omega)];rfl
 ·rw [if_neg h,List.getElem?_set_ne (fun e=>h e.symm)]
theorem put_ewk{n:Nat}{R R':Inst}(ha:Agree n R R'){le:LEnv}(he:EWS n le)(d:Option Nat){r:AV}{v:LV}(hw:Wk r (Z0 R' true v)):EWk ((Ze R le).put d r) (Ze R' (le.put d v)):=by
 intro t;have old:Wk (Ze R le t) (Z0 R' true (le.get t)):=by
  unfold Ze;rw [Yi ha true (he t)];exact Wk.refl _
 cases d with
 | none=>exact old
 | some d =>
  simp only [Env.put,Env.upd,Ze,get_put]
  by_cases h:t=d
  ·rw [if_pos h,if_pos h]
   split
   ·exact hw
   ·simp only [Z0];exact Wk.any _ _
  ·rw [if_neg h,if_neg h];exact old
theorem skipV_refs(ops:List Oper)(o:Oper):Z5 (skipV ops o)=[]:=by
 unfold skipV
 split <;> rfl
theorem skipV_wk(R:Inst)(ops:List Oper)(o:Oper):Wk (.v undef) (Z0 R true (skipV ops o)):=by
 unfold skipV
 split
 ·intro I x h
  have:=h.of_v;subst this;simp only [Z0,Z1];exact .tup #[] [] rfl (by simp)
 ·simp only [Z0]
  exact Wk.any _ _
theorem put_ews{n n':Nat}{le:LEnv}(he:EWS n le)(hn:n<=n')(d:Option Nat){v:LV}(hv:∀ b∈Z5 v,b<n'):EWS n' (le.put d v):=by
 intro t b hb
 cases d with
 | none=>exact Nat.lt_of_lt_of_le (he t b hb) hn
 | some d =>
  rw [get_put] at hb
  split at hb
  ·split at hb
   ·exact hv b hb
   ·simp [Z5] at hb
  ·exact Nat.lt_of_lt_of_le (he t b hb) hn
theorem Agree.le{n m:Nat}{R R':Inst}(h:Agree n R R')(hm:m<=n):Agree m R R':=fun b hb=>h b (by omega)
def LEnd'(P:Program)(m:Nat)(R:Inst)(le':LEnv)(st':St)(e:Env)(t:Hp):Prop:=
 ∃ R' s',Agree m R R'/\m<=st'.next/\SW e (Ze R' le') t s'/\SRel P R' st' s'/\EWS st'.next le'
theorem LEnd'.agree{P:Program}{m n:Nat}{R R1:Inst}{le':LEnv}{st':St}{e:Env}{t:Hp}(h:LEnd' P m R1 le' st' e t)(ha:Agree n R R1)(hm:m<=n):LEnd' P m R le' st' e t:=by
 obtain ⟨R',s',h1,h2⟩:=h
 exact ⟨R',s',(ha.le hm).trans h1 (Nat.le_refl _),h2⟩
theorem OpsS.mono{P:Program}{ops l:List Oper}{e:Env}{s:Hp}{K L:Env->Hp->Prop}(h:OpsS P ops l e s K)(hk:∀ e t,K e t->L e t):OpsS P ops l e s L:=
 fun ro n I w a h1 h2 h3 Q hq=>h ro n I w a h1 h2 h3 Q fun e' t J a' w' q1 q2 q3 q4=>hq e' t J a' w' q1 q2 q3 (hk _ _ q4)
theorem lone_cons{P:Program}{call:Zz}(hc:Yq P call){ops:List Oper}{o:Oper}{l:List Oper}{le le1:LEnv}{st st1:St}{m:Nat}{R:Inst}{s:Hp}{K:Env->Hp->Prop}(hs:SRel P R st s)(he:EWS st.next le)(hm:m<=st.next)(hg:o.guard=none∨∃ j d b,o.guard=some (j,b)/\(ops[j]?).bind (·.dst)=some d/\le.get d=.bool b)(h:lone P call o le st=some (le1,st1))(hk:∀ R1 s1,Agree m R R1->m<=st1.next->SRel P R1 st1 s1->EWS st1.next le1->OpsS P ops l (Ze R1 le1) s1 K):OpsS P ops (o::l) (Ze R le) s K:=by
 have core:∀ (le0:LEnv) (st0:St) (s0:Hp) (v:LV) (st2:St),SRel P R st0 s0->EWS st0.next le0->m<=st0.next->lop P call o.op le0 st0=some (v,st2)->le0.put o.dst v=le1->st2=st1 ->
   OpS P o (Ze R le0) s0 fun r t=>OpsS P ops l ((Ze R le0).put o.dst r) t K:=by
  intro le0 st0 s0 v st2 hs0 he0 hm0 hop h1 h2;subst h1;subst h2;refine OpS.mono (aop_sound (lop_sound hc hs0 he0 hop)) fun r t hp=>?_
  obtain ⟨R',s',g1,g2,g3,g4,g5,g6⟩:=hp;exact OpsS.wk (hk R' s' (g1.le hm0) (by omega) g6 (put_ews he0 g2 o.dst g4)) (put_ewk g1 he0 o.dst g3) g5
 have fin:∀ (le0:LEnv) (st0:St) (s0:Hp),(∀ t b,le.get t=.bool b->le0.get t=.bool b)->OpS P o (Ze R le0) s0 (fun r t=>OpsS P ops l ((Ze R le0).put o.dst r) t K)->OpsS P ops (o::l) (Ze R le0) s0 K:=by
  intro le0 st0 s0 hb hop
  rcases hg with hg | ⟨j,d,b,hg,hd,hbv⟩
  ·exact OpsS.cons hg hop
  ·refine OpsS.guarded (d:=d) (b:=b) hg hd ?_ (fun _=>hop) (fun hne=>absurd rfl hne)
   simp only [Ze,hb d b hbv,Z0]
 unfold lone at h
 split at h
 ·split at h <;> simp at h
  rename_i v st2 hop;exact fin le st s (fun _ _ h=>h) (core le st s v st2 hs he hm hop h.1 h.2)
 ·rename_i ids hids
  split at h <;> simp at h
  rename_i v st2 hop;obtain ⟨s1,g1,g2,g3,g4,g5⟩:=frz_sound (ghostAll o.op le) hs he;refine OpsS.sw ?_ g5;have hbool:∀ t b,le.get t=.bool b->(frz (ghostAll o.op le) le st).1.get t=.bool b:=by
   have:∀ (l:List Nat) (le:LEnv) (st:St) t b,le.get t=.bool b->(frz l le st).1.get t=.bool b:=by
    intro l
    induction l with
    | nil=>intro le st t b h;exact h
    | cons x l ih =>
     intro le st t b h;unfold frz
     split
     ·exact ih _ _ t b (by rw [fsubL_get,h];rfl)
     ·exact ih _ _ t b h
   exact this _ _ _
  refine fin _ (frz (ghostAll o.op le) le st).2 s1 hbool (core _ _ s1 v st2 g1 (by rw [g2];exact g3) (by rw [g2];exact hm) hop h.1 h.2)
theorem lops_sound{P:Program}{call:Zz}(hc:Yq P call){ops:List Oper}{m:Nat}:∀ (l:List Oper) {le le':LEnv} {st st':St} {R:Inst} {s:Hp},lops P call ops l le st=some (le',st')->SRel P R st s->EWS st.next le->m<=st.next ->
  OpsS P ops l (Ze R le) s (LEnd' P m R le' st')
 | [],le,le',st,st',R,s,h,hs,he,hm=>by
  simp [lops] at h;obtain ⟨rfl,rfl⟩:=h
  exact .nil ⟨R,s,Agree.refl _ _,hm,SW.refl _ _,hs,he⟩
 | o::l,le,le',st,st',R,s,h,hs,he,hm=>by
  unfold lops at h
  split at h
  ·rename_i hg
   split at h <;> try (simp at h;done)
   rename_i le1 st1 hone;exact lone_cons hc hs he hm (.inl hg) hone fun R1 s1 h1 h2 h3 h4=>OpsS.mono (lops_sound hc l h h3 h4 h2) fun e t q=>q.agree h1 (Nat.le_refl _)
  ·rename_i j want hg
   split at h <;> try (simp at h;done)
   rename_i b hb;unfold lguard at hb
   split at hb <;> try (simp at hb;done)
   rename_i d hd
   split at hb <;> simp at hb
   case h_2 hbv =>
    subst hb;rw [if_neg (by cases b <;> simp)] at h
    refine OpsS.undone (d:=d) hg hd (by simp only [Ze,hbv,Z0,Z1]) ?_
    exact OpsS.wk (lops_sound hc l h hs (put_ews he (Nat.le_refl _) o.dst (by rw [skipV_refs];simp)) hm) (put_ewk (Agree.refl _ _) he o.dst (skipV_wk _ _ _)) (HpWk.refl _)
   rename_i b' hbv;subst hb
   split at h
   ·rename_i hw;subst hw
    split at h <;> try (simp at h;done)
    rename_i le1 st1 hone;exact lone_cons hc hs he hm (.inr ⟨j,d,b',hg,hd,hbv⟩) hone fun R1 s1 h1 h2 h3 h4=>OpsS.mono (lops_sound hc l h h3 h4 h2) fun e t q=>q.agree h1 (Nat.le_refl _)
   ·rename_i hw
    refine OpsS.guarded (d:=d) (b:=b') hg hd (by simp only [Ze,hbv,Z0]) (fun e=>absurd e hw) fun _=>?_
    refine OpsS.wk (lops_sound hc l h hs (put_ews he (Nat.le_refl _) o.dst (by rw [skipV_refs];simp)) hm) (put_ewk (Agree.refl _ _) he o.dst (skipV_wk _ _ _)) (HpWk.refl _)
def RenOk(r:Nat->Option Nat)(R R':Inst):Prop:=∀ b i,r b=some i->R'.ρ i=R.ρ b/\R'.κ i=R.κ b/\R'.z i=R.z b
mutual
theorem ren_wk{r:Nat->Option Nat}{R R':Inst}(h:RenOk r R R'):∀ v:LV,Wk (Z0 R true v) (Z0 R' true (ren r v))
 | .int _ _=>by simp only [ren,Z0];exact Wk.refl _
 | .bool _=>by simp only [ren,Z0];exact Wk.refl _
 | .str _=>by simp only [ren,Z0];exact Wk.refl _
 | .nilp=>by simp only [ren,Z0];exact Wk.refl _
 | .ptr b o=>by
  simp only [ren]
  split
  ·rename_i b' hb;simp only [Z0,(h b b' hb).1];exact Wk.refl _
  ·simp only [Z0];exact Wk.any _ _
 | .pel k b i o=>by
  simp only [ren]
  split
  ·rename_i b' hb;simp only [Z0,(h b b' hb).1];exact Wk.refl _
  ·simp only [Z0];exact Wk.any _ _
 | .irp x=>by simp only [ren,Z0];rw [Wm R R' x];exact Wk.refl _
 | .nils=>by simp only [ren,Z0];exact Wk.refl _
 | .sl k b i n c=>by
  simp only [ren]
  split
  ·rename_i b' hb
   obtain ⟨h1,h2,h3⟩:=h b b' hb;simp only [Z0,Y0,h1,h2,h3];exact Wk.refl _
  ·simp only [Z0];exact Wk.any _ _
 | .asl b o n c=>by
  simp only [ren]
  split
  ·rename_i b' hb;simp only [Z0,(h b b' hb).1];exact Wk.refl _
  ·simp only [Z0];exact Wk.any _ _
 | .isl k xs=>by simp only [ren,Z0];rw [Ye R R' xs];exact Wk.refl _
 | .own _ _ _=>by simp only [ren,Z0];exact Wk.refl _
 | .nilm=>by simp only [ren,Z0];exact Wk.refl _
 | .map b=>by
  simp only [ren]
  split
  ·rename_i b' hb;simp only [Z0,(h b b' hb).1];exact Wk.refl _
  ·simp only [Z0];exact Wk.any _ _
 | .omap _ _ _=>by simp only [ren,Z0];exact Wk.refl _
 | .nili=>by simp only [ren,Z0];exact Wk.refl _
 | .ifc t x=>by simp only [ren,Z0];exact Wk.mkIfc t (ren_wk h x)
 | .nilf=>by simp only [ren,Z0];exact Wk.refl _
 | .fn f a c=>by
  simp only [ren,Z0]
  cases h1:Yg (Z1 R' true (Wb r a)) with
  | none=>exact Wk.any _ _
  | some p =>
   cases h2:Yg (Z1 R' true (Wb r c)) with
   | none=>exact Wk.any _ _
   | some q=>rw [flats_ren h a p h1,flats_ren h c q h2];exact Wk.refl _
 | .yld b=>by
  simp only [ren]
  split
  ·rename_i b' hb;simp only [Z0,(h b b' hb).1];exact Wk.refl _
  ·simp only [Z0];exact Wk.any _ _
 | .agg xs=>by simp only [ren,Z0];exact Wk.agg (renL_wk h xs)
 | .tup xs=>by simp only [ren,Z0];exact Wk.tup (renL_wk h xs)
 | .any=>by simp only [ren,Z0];exact Wk.refl _
theorem renL_wk{r:Nat->Option Nat}{R R':Inst}(h:RenOk r R R'):∀ xs:List LV,WkL (Z1 R true xs) (Z1 R' true (Wb r xs))
 | []=>by simp only [Wb,Z1];exact .nil
 | x::xs=>by simp only [Wb,Z1];exact .cons (ren_wk h x) (renL_wk h xs)
theorem flat_ren{r:Nat->Option Nat}{R R':Inst}(h:RenOk r R R'):∀ (v:LV) (x:Value),Z0 R' true (ren r v)=.v x->Z0 R true v=.v x
 | .int _ _,x,e=>by simpa [ren,Z0] using e
 | .bool _,x,e=>by simpa [ren,Z0] using e
 | .str _,x,e=>by simpa [ren,Z0] using e
 | .nilp,x,e=>by simpa [ren,Z0] using e
 | .ptr b o,x,e=>by
  simp only [ren] at e
  split at e
  ·rename_i b' hb;simp only [Z0,(h b b' hb).1] at e ⊢;exact e
  ·simp [Z0] at e
 | .pel k b i o,x,e=>by
  simp only [ren] at e
  split at e
  ·rename_i b' hb;simp only [Z0,(h b b' hb).1] at e ⊢;exact e
  ·simp [Z0] at e
 | .irp y,x,e=>by simp [ren,Z0] at e
 | .nils,x,e=>by simpa [ren,Z0] using e
 | .sl k b i n c,x,e=>by
  simp only [ren] at e
  split at e
  ·rename_i b' hb
   obtain ⟨h1,h2,h3⟩:=h b b' hb;simp only [Z0,Y0,h1,h2,h3] at e ⊢;exact e
  ·simp [Z0] at e
 | .asl b o n c,x,e=>by
  simp only [ren] at e
  split at e
  ·rename_i b' hb;simp only [Z0,(h b b' hb).1] at e ⊢;exact e
  ·simp [Z0] at e
 | .isl k xs,x,e=>by simp [ren,Z0] at e
 | .own _ _ _,x,e=>by simp [ren,Z0] at e
 | .nilm,x,e=>by simpa [ren,Z0] using e
 | .map b,x,e=>by
  simp only [ren] at e
  split at e
  ·rename_i b' hb;simp only [Z0,(h b b' hb).1] at e ⊢;exact e
  ·simp [Z0] at e
 | .omap _ _ _,x,e=>by simp [ren,Z0] at e
 | .nili,x,e=>by simpa [ren,Z0] using e
 | .ifc t y,x,e=>by
  simp only [ren,Z0] at e ⊢
  cases hy:Z0 R' true (ren r y) with
  | v z=>rw [flat_ren h y z hy];rw [hy] at e;exact e
  | _=>rw [hy] at e;simp [Eng.mkIfc] at e
 | .nilf,x,e=>by simpa [ren,Z0] using e
 | .fn f a c,x,e=>by
  simp only [ren,Z0] at e ⊢
  cases h1:Yg (Z1 R' true (Wb r a)) with
  | none=>rw [h1] at e;simp [W8] at e
  | some p =>
   cases h2:Yg (Z1 R' true (Wb r c)) with
   | none=>rw [h1,h2] at e;simp [W8] at e
   | some q=>rw [flats_ren h a p h1,flats_ren h c q h2];rw [h1,h2] at e;exact e
 | .yld b,x,e=>by
  simp only [ren] at e
  split at e
  ·rename_i b' hb;simp only [Z0,(h b b' hb).1] at e ⊢;exact e
  ·simp [Z0] at e
 | .agg xs,x,e=>by simp [ren,Z0] at e
 | .tup xs,x,e=>by simp [ren,Z0] at e
 | .any,x,e=>by simp [ren,Z0] at e
theorem flats_ren{r:Nat->Option Nat}{R R':Inst}(h:RenOk r R R'):∀ (xs:List LV) (ys:List Value),Yg (Z1 R' true (Wb r xs))=some ys->Yg (Z1 R true xs)=some ys
 | [],ys,e=>by simpa [Wb,Z1] using e
 | x::xs,ys,e=>by
  simp only [Wb,Z1] at e ⊢
  cases hx:Z0 R' true (ren r x) with
  | v z =>
   rw [flat_ren h x z hx];rw [hx] at e;simp only [Yg] at e ⊢
   cases hq:Yg (Z1 R' true (Wb r xs)) with
   | none=>rw [hq] at e;simp at e
   | some q=>rw [flats_ren h xs q hq];rw [hq] at e;exact e
  | _=>rw [hx] at e;simp [Yg] at e
end
theorem renL_map(r:Nat->Option Nat):∀ xs:List LV,Wb r xs=xs.map (ren r)
 | []=>rfl
 | x::xs=>by simp [Wb,renL_map r xs]
theorem ren_isAgg(r:Nat->Option Nat)(v:LV):(ren r v).isAgg=v.isAgg:=by
 cases v <;> simp only [ren] <;> first | rfl | (split <;> rfl)
theorem ren_plain(r:Nat->Option Nat){v:LV}(h:v.plain=true):(ren r v).plain=true:=by
 cases v <;> simp only [ren] <;> first | rfl | exact h | (split <;> rfl)
theorem ren_lcells(r:Nat->Option Nat)(v:LV):Z4 (ren r v)=Wb r (Z4 v):=by
 by_cases h:v.isAgg=true
 ·cases v <;> simp [LV.isAgg] at h;rfl
 ·have h1:(ren r v).isAgg=false:=by rw [ren_isAgg];simpa using h
  have e1:∀ u:LV,u.isAgg=false->Z4 u=[u]:=fun u hu=>by cases u <;> simp_all [LV.isAgg,Z4]
  rw [e1 _ h1,e1 v (by simpa using h)];rfl
theorem ren_cwk{r:Nat->Option Nat}{R R':Inst}(h:RenOk r R R')(v:LV):CWk (Z0 R true v) (Z0 R' true (ren r v)):=by
 by_cases hv:v.isAgg=true
 ·cases v <;> simp [LV.isAgg] at hv
  simp only [ren,Z0];exact .agg (renL_wk h _)
 ·exact .one (by rw [V8];simpa using hv) (by rw [V8,ren_isAgg];simpa using hv) (ren_wk h v)
mutual
theorem ren_refs{r:Nat->Option Nat}{n:Nat}(h:∀ b i,r b=some i->i<n):∀ v:LV,∀ x∈Z5 (ren r v),x<n
 | .int _ _,x,e=>by simp [ren,Z5] at e
 | .bool _,x,e=>by simp [ren,Z5] at e
 | .str _,x,e=>by simp [ren,Z5] at e
 | .nilp,x,e=>by simp [ren,Z5] at e
 | .ptr b o,x,e=>by
  simp only [ren] at e
  split at e <;> simp [Z5] at e
  rename_i b' hb;subst e;exact h b _ hb
 | .pel k b i o,x,e=>by
  simp only [ren] at e
  split at e <;> simp [Z5] at e
  rename_i b' hb;subst e;exact h b _ hb
 | .irp y,x,e=>by simp [ren,Z5] at e
 | .nils,x,e=>by simp [ren,Z5] at e
 | .sl k b i n' c,x,e=>by
  simp only [ren] at e
  split at e <;> simp [Z5] at e
  rename_i b' hb;subst e;exact h b _ hb
 | .asl b o n' c,x,e=>by
  simp only [ren] at e
  split at e <;> simp [Z5] at e
  rename_i b' hb;subst e;exact h b _ hb
 | .isl k xs,x,e=>by simp [ren,Z5] at e
 | .own _ _ _,x,e=>by simp [ren,Z5] at e
 | .nilm,x,e=>by simp [ren,Z5] at e
 | .map b,x,e=>by
  simp only [ren] at e
  split at e <;> simp [Z5] at e
  rename_i b' hb;subst e;exact h b _ hb
 | .omap _ _ _,x,e=>by simp [ren,Z5] at e
 | .nili,x,e=>by simp [ren,Z5] at e
 | .ifc t y,x,e=>by simp only [ren,Z5] at e;exact ren_refs h y x e
 | .nilf,x,e=>by simp [ren,Z5] at e
 | .fn f a c,x,e=>by
  simp only [ren,Z5,List.mem_append] at e;exact e.elim (Wl h a x) (Wl h c x)
 | .yld b,x,e=>by
  simp only [ren] at e
  split at e <;> simp [Z5] at e
  rename_i b' hb;subst e;exact h b _ hb
 | .agg xs,x,e=>by simp only [ren,Z5] at e;exact Wl h xs x e
 | .tup xs,x,e=>by simp only [ren,Z5] at e;exact Wl h xs x e
 | .any,x,e=>by simp [ren,Z5] at e
theorem Wl{r:Nat->Option Nat}{n:Nat}(h:∀ b i,r b=some i->i<n):∀ xs:List LV,∀ x∈Z9 (Wb r xs),x<n
 | [],x,e=>by simp [Wb,Z9] at e
 | y::xs,x,e=>by
  simp only [Wb,Z9,List.mem_append] at e;exact e.elim (ren_refs h y x) (Wl h xs x)
end
inductive HW:Hp->Hp->Prop where
 | nil:HW [] []
 | cons (k:Nat) {o o':AObj} {t t':Hp} (h:OWk o o') (r:HW t t'):HW ((k,o)::t) ((k,o')::t')
theorem HW.refl:∀ t:Hp,HW t t
 | []=>.nil
 | (k,o)::t=>.cons k (.refl o) (HW.refl t)
theorem HW.append{a b c d:Hp}(h:HW a b)(k:HW c d):HW (a++c) (b++d):=by
 induction h with
 | nil=>exact k
 | cons n h _ ih=>exact .cons n h ih
theorem HW.keys{a b:Hp}(h:HW a b):a.keys=b.keys:=by
 induction h with
 | nil=>rfl
 | cons n h _ ih=>simp [Hp.keys] at ih ⊢;exact ih
theorem HW.wk{a b:Hp}(h:HW a b):HpWk a b:=by
 refine ⟨?_,fun hn=>by rw [<- h.keys];exact hn⟩
 induction h with
 | nil=>intro p hp;simp at hp
 | cons n h _ ih =>
  intro p hp
  rcases List.mem_cons.1 hp with rfl | hp
  ·exact ⟨_,List.mem_cons_self,h⟩
  ·obtain ⟨o,h1,h2⟩:=ih p hp
   exact ⟨o,List.mem_cons_of_mem _ h1,h2⟩
theorem mapOk_dead{R R':Inst}{es:List (Int × LV)}{es':List (Int × AV)}(h:MapOk R es es'):MapOk R' es es':=by
 refine ⟨?_,h.nd⟩;have:W9 R' es=W9 R es:=List.map_congr_left fun p _=>by rw [Wm R]
 rw [this];exact h.perm
theorem CellsE.renumber{P:Program}{r:Nat->Option Nat}{R R':Inst}(hr:RenOk r R R'){cs:List LV}{us:List AV}{t:Hp}(h:CellsE P R cs us t):∃ us',CellsE P R' (Wb r cs) us' t/\WkL us us':=by
 induction h with
 | nil=>exact ⟨[],.nil,.nil⟩
 | cons h k ih =>
  obtain ⟨us',h1,h2⟩:=ih
  cases h with
  | ownNil e k=>exact ⟨_,.cons (.ownNil e k) h1,.cons (Wk.refl _) h2⟩
  | own e k ys q cap hf hok =>
   refine ⟨_,.cons (c:=.own e k ys) ?_ h1,.cons (Wk.refl _) h2⟩;rw [Ye R' R];exact .own e k ys q cap hf hok
  | omap k ks vs q es' hm=>exact ⟨_,.cons (.omap k ks vs q es' (mapOk_dead hm)) h1,.cons (Wk.refl _) h2⟩
  | other _ hc=>exact ⟨_,.cons (.other _ (ren_plain r hc)) h1,.cons (ren_wk hr _) h2⟩
theorem ObjE.renumber{P:Program}{r:Nat->Option Nat}{R R':Inst}(hr:RenOk r R R'){b i:Nat}(hb:R'.ρ i=R.ρ b/\R'.κ i=R.κ b/\R'.z i=R.z b){o:LObj}{t:Hp}(h:ObjE P R b o t):∃ t',ObjE P R' i (renO P r o) t'/\HW t t':=by
 cases h with
 | box e cs us t hc =>
  obtain ⟨us',g1,g2⟩:=hc.renumber hr;refine ⟨_,.box e _ us' t g1,?_⟩;rw [hb.1,<- g2.length];exact .cons _ (.cells e _ g2) (HW.refl _)
 | rowNil e k hz=>exact ⟨[],by simp only [renO];split <;> exact .rowNil e k (by rw [hb.2.2];exact hz),.nil⟩
 | row e k xs hz ok =>
  simp only [renO]
  by_cases hf:Y4 P e=true
  ·rw [if_pos hf]
   have e1:Z1 R (rlv P e) xs=Z1 R' (rlv P e) xs:=by simp only [rlv,hf,Bool.not_true];exact Ye R' R xs
   rw [e1,<- hb.1,<- hb.2.1];exact ⟨_,.row e k xs (by rw [hb.2.2];exact hz) (by rw [hb.2.1];exact ok),HW.refl _⟩
  ·rw [if_neg hf]
   have hf':Y4 P e=false:=by simpa using hf
   have ok':RowOk (Y4 P e) k (R'.κ i) (Wb r xs):=by
    rw [hb.2.1];refine ⟨fun x hx=>?_,fun h=>absurd h hf,by rw [renL_map,List.length_map];exact ok.le,ok.cap,by rw [renL_map,List.length_map];exact ok.big⟩
    rw [renL_map] at hx;obtain ⟨y,hy,rfl⟩:=List.mem_map.1 hx;rw [ren_lcells,renL_map,List.length_map];exact ok.cells y hy
   refine ⟨_,.row e k _ (by rw [hb.2.2];exact hz) ok',?_⟩
   rw [hb.1,hb.2.1];refine .cons _ (.cells e _ ?_) .nil;simp only [rlv,hf',Bool.not_false];rw [Zu,Zu,renL_map,List.map_map];exact (CWkL.of (Z0 R true) (Z0 R' true ∘ ren r) xs fun x _=>ren_cwk hr x).flat
 | map k es es' hm=>exact ⟨_,.map k es es' (mapOk_dead hm),by rw [hb.1];exact HW.refl _⟩
theorem olook_del{b b':Nat}(h:b'≠b):∀ l:List (Nat × LObj),Yh (Yo l b) b'=Yh l b'
 | []=>rfl
 | (k,o)::l=>by
  unfold Yo
  by_cases hk:k=b
  ·rw [if_pos hk];simp only [Yh];rw [if_neg (by omega)]
  ·rw [if_neg hk];simp only [Yh,olook_del h l]
theorem reobjs_ents{P:Program}{r:Nat->Option Nat}{R R':Inst}(hr:RenOk r R R')(st:St):∀ (ks:List Nat) (l:List (Nat × LObj)) (s:Hp),ks.Nodup->(∀ b∈ks,st.look b=Yh l b)->(∀ b∈ks,(r b).isSome=true)->Ents P R l s ->
  ∃ s0 s1 rest,Ents P R' (reobjs P st r ks) s1/\HW s0 s1/\s.Perm (s0++rest)/\Ents P R (odels l ks) rest
 | [],l,s,_,_,_,hs=>⟨[],[],s,.nil,.nil,.refl _,hs⟩
 | b::ks,l,s,hn,hl,hi,hs=>by
  simp only [List.nodup_cons] at hn;simp only [reobjs,odels];have hlb:=hl b List.mem_cons_self;obtain ⟨i,hri⟩:=Option.isSome_iff_exists.1 (hi b List.mem_cons_self);have hdel:∀ b'∈ks,Yh (Yo l b) b'=Yh l b':=fun b' hb'=>olook_del (fun e=>hn.1 (by rw [<- e];exact hb')) l
  cases hlook:st.look b with
  | none =>
   simp only;have hd:Yo l b=l:=by
    have:∀ l:List (Nat × LObj),Yh l b=none->Yo l b=l:=by
     intro l
     induction l with
     | nil=>intro _;rfl
     | cons p l ih =>
      obtain ⟨k,o⟩:=p
      intro h;unfold Yh at h;unfold Yo
      split at h
      ·simp at h
      ·rename_i hk;rw [if_neg hk,ih h]
    exact this l (by rw [<- hlb];exact hlook)
   rw [hd];exact reobjs_ents hr st ks l s hn.2 (fun b' hb'=>hl b' (List.mem_cons_of_mem _ hb')) (fun b' hb'=>hi b' (List.mem_cons_of_mem _ hb')) hs
  | some o =>
   rw [hlook] at hlb;obtain ⟨t1,t2,h1,h2,h3,_⟩:=hs.focus hlb.symm;obtain ⟨t1',g1,g2⟩:=h1.renumber hr (hr b i hri);obtain ⟨s0,s1,rest,q1,q2,q3,q4⟩:=reobjs_ents hr st ks (Yo l b) t2 hn.2 (fun b' hb'=>by
    rw [hl b' (List.mem_cons_of_mem _ hb'),hdel b' hb']) (fun b' hb'=>hi b' (List.mem_cons_of_mem _ hb')) h2
   rw [hri];refine ⟨t1++s0,t1'++s1,rest,.cons g1 q1,g2.append q2,?_,q4⟩;rw [List.append_assoc];exact h3.trans (List.Perm.append_left t1 q3)
theorem ixOf_get:∀ (ks:List Nat) (b i j:Nat),ixOf ks b i=some j->∃ p,j=i+p/\ks[p]? = some b
 | [],b,i,j,h=>by simp [ixOf] at h
 | k::ks,b,i,j,h=>by
  unfold ixOf at h
  split at h
  ·rename_i e;injection h with h;subst e;exact ⟨0,by omega,rfl⟩
  ·obtain ⟨p,h1,h2⟩:=ixOf_get ks b (i+1) j h
   exact ⟨p+1,by omega,by simpa using h2⟩
def Inst.re(R:Inst)(ks:List Nat):Inst:=⟨fun i=>R.ρ (ks.getD i 0),fun i=>R.κ (ks.getD i 0),fun i=>R.z (ks.getD i 0)⟩
theorem re_at(R:Inst){ks:List Nat}{i b:Nat}(h:ks[i]? = some b):(R.re ks).ρ i=R.ρ b/\(R.re ks).κ i=R.κ b/\(R.re ks).z i=R.z b:=by
 have:ks.getD i 0=b:=by rw [List.getD_eq_getElem?_getD,h];rfl
 simp only [Inst.re,this,and_self]
theorem re_ok(R:Inst)(ks:List Nat):RenOk (fun b=>ixOf ks b 0) R (R.re ks):=fun b i h=>by
 obtain ⟨p,h1,h2⟩:=ixOf_get ks b 0 i h;rw [Nat.zero_add] at h1;subst h1;exact re_at R h2
theorem ixOf_lt{ks:List Nat}{b i:Nat}(h:ixOf ks b 0=some i):i<ks.length:=by
 obtain ⟨p,h1,h2⟩:=ixOf_get ks b 0 i h;rw [Nat.zero_add] at h1;subst h1;exact (List.getElem?_eq_some_iff.1 h2).1
theorem ixOf_some:∀ (ks:List Nat) (b i:Nat),b∈ks->(ixOf ks b i).isSome=true
 | k::ks,b,i,h=>by
  unfold ixOf
  split
  ·rfl
  ·rename_i hk
   exact ixOf_some ks b (i+1) ((List.mem_cons.1 h).resolve_left fun e=>hk e.symm)
theorem Wc(P:Program)(st:St)(r:Nat->Option Nat):∀ (ks:List Nat) (p:Nat × LObj),p∈reobjs P st r ks->∃ b∈ks,∃ o,st.look b=some o/\r b=some p.1/\p.2=renO P r o
 | [],p,h=>by simp [reobjs] at h
 | b::ks,p,h=>by
  simp only [reobjs] at h
  split at h
  ·rename_i o i ho hi
   rcases List.mem_cons.1 h with rfl | h
   ·exact ⟨b,List.mem_cons_self,o,ho,hi,rfl⟩
   ·obtain ⟨b',h1,h2⟩:=Wc P st r ks p h
    exact ⟨b',List.mem_cons_of_mem _ h1,h2⟩
  ·obtain ⟨b',h1,h2⟩:=Wc P st r ks p h
   exact ⟨b',List.mem_cons_of_mem _ h1,h2⟩
theorem reobjs_nodup(P:Program)(st:St)(r:Nat->Option Nat)(hinj:∀ b b' i,r b=some i->r b'=some i->b=b'):∀ (ks:List Nat),ks.Nodup->((reobjs P st r ks).map (·.1)).Nodup
 | [],_=>by simp [reobjs]
 | b::ks,hn=>by
  simp only [List.nodup_cons] at hn;simp only [reobjs]
  split
  ·rename_i o i ho hi
   simp only [List.map_cons,List.nodup_cons];refine ⟨fun hm=>?_,reobjs_nodup P st r hinj ks hn.2⟩
   obtain ⟨p,hp,e⟩:=List.mem_map.1 hm;obtain ⟨b',h1,o',h2,h3,h4⟩:=Wc P st r ks p hp;rw [e] at h3;exact hn.1 (hinj b b' i hi h3▸h1)
  ·exact reobjs_nodup P st r hinj ks hn.2
theorem renO_refs(P:Program){r:Nat->Option Nat}{n:Nat}(hr:∀ b i,r b=some i->i<n)(o:LObj):∀ x∈Y1 P (renO P r o),x<n:=by
 intro x hx
 cases o with
 | box e cs=>simp only [renO,Y1] at hx;exact Wl hr cs x hx
 | row e k xs =>
  simp only [renO] at hx
  split at hx
  ·rename_i hf;simp [Y1,hf] at hx
  ·rename_i hf;simp only [Y1,if_neg hf] at hx;exact Wl hr xs x hx
 | map k es=>simp [renO,Y1] at hx
 | lp env ps a c d pp=>simp only [renO,Y1] at hx;exact Wl hr env x hx
theorem recanon_sound{P:Program}{R:Inst}{st:St}{s:Hp}(hs:SRel P R st s){ks:List Nat}(hn:ks.Nodup):
  ∃ s0 s1 rest,SRel P (R.re ks) (recanon P ks st) s1/\HW s0 s1/\s.Perm (s0++rest)/\Ents P R (odels st.objs ks) rest:=by
 obtain ⟨s0,s1,rest,h1,h2,h3,h4⟩:=reobjs_ents (re_ok R ks) st ks st.objs s hn (fun b _=>rfl) (fun b hb=>ixOf_some ks b 0 hb) hs.ents
 refine ⟨s0,s1,rest,⟨h1,?_,?_,fun p hp=>?_,fun p hp x hx=>?_⟩,h2,h3,h4⟩
 ·rw [<- h2.keys]
  have:=(Wi h3).nodup_iff.1 hs.nd;rw [hpk_append] at this;exact (List.nodup_append.1 this).1
 ·refine reobjs_nodup P st _ (fun b b' i h1 h2=>?_) ks hn
  obtain ⟨p,e1,e2⟩:=ixOf_get ks b 0 i h1;obtain ⟨q,e3,e4⟩:=ixOf_get ks b' 0 i h2;have:p=q:=by omega
  subst this;rw [e2] at e4;injection e4
 ·obtain ⟨b,_,o,_,h5,_⟩:=Wc P st _ ks p hp
  exact ixOf_lt h5
 ·obtain ⟨b,_,o,_,_,h6⟩:=Wc P st _ ks p hp
  rw [h6] at hx;exact renO_refs P (fun b i hb=>ixOf_lt hb) o x hx
def GopS(P:Program)(ops:List Oper)(o:Oper)(e:Env)(s:Hp)(K:AV->Hp->Prop):Prop:=
 ∀ ro n I w a,EnvRel I n a e->Rel I s w->isDefer o.op=false->∀ (next:Act->World->Prop) (Q:Exit->Act->World->Prop),
  (∀ v r t J w',RV J v r->Rel J t w'->Ext I s w J t w'->K r t->next (a.put o.dst v) w') ->
  if Region.wanted o (yielded ops.toArray a.tmps) then o.wpIn (fw ro) 0 P a w next Q else (∀ f,o.about P w a.eval=some f->(fw ro).fn f)/\next (a.put o.dst undef) w
theorem GopS.wk{P:Program}{ops:List Oper}{o:Oper}{e e':Env}{s s':Hp}{K:AV->Hp->Prop}(h:GopS P ops o e' s' K)(he:EWk e e')(hs:HpWk s s'):GopS P ops o e s K:=
 fun ro n I w a h1 h2 h3 next Q hn=>h ro n I w a (EnvRel.wk h1 he) (Rel.wk h2 hs) h3 next Q fun v r t J w' q1 q2 q3 q4=>hn v r t J w' q1 q2 (Ext.wk q3 hs) q4
theorem GopS.mono{P:Program}{ops:List Oper}{o:Oper}{e:Env}{s:Hp}{K L:AV->Hp->Prop}(h:GopS P ops o e s K)(hk:∀ r t,K r t->L r t):GopS P ops o e s L:=
 fun ro n I w a h1 h2 h3 next Q hn=>h ro n I w a h1 h2 h3 next Q fun v r t J w' q1 q2 q3 q4=>hn v r t J w' q1 q2 q3 (hk _ _ q4)
theorem GopS.run{P:Program}{ops:List Oper}{o:Oper}{e:Env}{s:Hp}{K:AV->Hp->Prop}(hg:o.guard=none)(h:aop P o.op e s K):GopS P ops o e s K:=by
 intro ro n I w a he hs hd next Q hn;rw [if_pos (by simp [Region.wanted,hg])]
 exact op_wpIn ro 0 hd<|aop_sound h n I w a he hs next Q hn
theorem GopS.guarded{P:Program}{ops:List Oper}{o:Oper}{e:Env}{s:Hp}{K:AV->Hp->Prop}{j d:Nat}{want b:Bool}(hg:o.guard=some (j,want))(hj:(ops[j]?).bind (·.dst)=some d)(hd:e d=.v (.bool b))(h1:b=want->aop P o.op e s K)(h2:b≠want->K (.v undef) s):GopS P ops o e s K:=by
 intro ro n I w a he hs hdf next Q hn;have hwant:Region.wanted o (yielded ops.toArray a.tmps)=(b==want):=by
  have hv:=he.rv d;rw [hd] at hv;have hdn:a.tmps.getD d undef=.bool b:=hv.of_v;have:a.tmps[d]? = some (.bool b):=by
   simp only [Array.getD_eq_getD_getElem?] at hdn
   cases hq:a.tmps[d]? with
   | none=>rw [hq] at hdn;simp [undef] at hdn
   | some y=>rw [hq] at hdn;simp at hdn;rw [hdn]
  have hj':(ops.toArray[j]?).bind (·.dst)=some d:=by simpa using hj
  simp only [Region.wanted,hg,yielded,hj',Option.bind_some,this]
  cases b <;> cases want <;> rfl
 by_cases hbw:b=want
 ·rw [if_pos (by rw [hwant];simpa using hbw)]
  exact op_wpIn ro 0 hdf<|aop_sound (h1 hbw) n I w a he hs next Q hn
 ·rw [if_neg (by rw [hwant];simpa using hbw)]
  exact ⟨fun _ _=>trivial,hn undef (.v undef) s I w (.v _) hs (Ext.refl _ _ _) (h2 hbw)⟩
theorem GopS.undone{P:Program}{ops:List Oper}{o:Oper}{e:Env}{s:Hp}{K:AV->Hp->Prop}{j d:Nat}{want:Bool}(hg:o.guard=some (j,want))(hj:(ops[j]?).bind (·.dst)=some d)(hd:e d=.tup [])(h2:K (.v undef) s):GopS P ops o e s K:=by
 intro ro n I w a he hs hdf next Q hn;have hwant:Region.wanted o (yielded ops.toArray a.tmps)=false:=by
  simp only [Region.wanted,hg,yielded_undone he hj hd]
  rfl
 rw [if_neg (by rw [hwant];simp)]
 exact ⟨fun _ _=>trivial,hn undef (.v undef) s I w (.v _) hs (Ext.refl _ _ _) h2⟩
theorem slot_any{ops:List Oper}{m:Nat}(hok:Yw ops m=true){e:Env}{V:Nat->AV}{D:Nat->Bool}{i:Nat}{o:Oper}(him:i<m)(ho:ops[i]? = some o)(hD:∀ j,j<i->reach ops ops.length i j=true->D j=true)(hDi:D i=false):∀ t,t∈o.looksAt ops.toArray->Z8 ops m V e (fun j=>decide (j<i)) t=Z8 ops m V e D t:=by
 obtain ⟨hm,hparts⟩:=X9 hok;have hi:=(hparts i o ho).2.1 him;intro t ht;unfold Z8
 cases hf:(List.range m).find? (fun j=>D j&&((ops[j]?).bind (·.dst)==some t)) with
 | none =>
  have hf':=List.find?_eq_none.1 hf;have:(List.range m).find? (fun j=>decide (j<i)&&((ops[j]?).bind (·.dst)==some t))=none:=by
   apply List.find?_eq_none.2;intro j hj;have hjm:=List.mem_range.1 hj;intro hc;simp only [Bool.and_eq_true,decide_eq_true_eq,beq_iff_eq] at hc;obtain ⟨q,hq,hqd⟩:=Option.bind_eq_some_iff.1 hc.2;have:=(hi j q t hjm (by omega) hq hqd).2 ht
   have hDj:=hD j this.1 this.2;apply hf' j hj;simp [hDj,hc.2]
  rw [this]
 | some j =>
  have h1:=List.find?_some hf;have hjm:=List.mem_range.1 (List.mem_of_find?_eq_some hf);simp only [Bool.and_eq_true,beq_iff_eq] at h1;obtain ⟨q,hq,hqd⟩:=Option.bind_eq_some_iff.1 h1.2
  cases hf2:(List.range m).find? (fun j=>decide (j<i)&&((ops[j]?).bind (·.dst)==some t)) with
  | none =>
   exfalso;have hf':=List.find?_eq_none.1 hf2 j (List.mem_range.2 hjm)
   by_cases hji:j=i
   ·subst hji
    rw [hDi] at h1;simp at h1
   ·have:=(hi j q t hjm hji hq hqd).2 ht
    apply hf';simp [this.1,h1.2]
  | some j2 =>
   have h3:=List.find?_some hf2;have hj2m:=List.mem_range.1 (List.mem_of_find?_eq_some hf2);simp only [Bool.and_eq_true,beq_iff_eq,decide_eq_true_eq] at h3;obtain ⟨q2,hq2,hqd2⟩:=Option.bind_eq_some_iff.1 h3.2
   by_cases hjj:j=j2
   ·rw [hjj]
   ·exfalso
    have:=((hparts j q hq).2.1 hjm j2 q2 t hj2m (fun h=>hjj h.symm) hq2 hqd2).1
    exact this hqd
def Closed(ops:List Oper)(D:Nat->Bool):Prop:=∀ j o,D j=true->ops[j]? = some o->∀ p∈prs o,D p=true
theorem any_mixed{P:Program}{ops:List Oper}{m:Nat}(ro:Option Nat)(hok:Yw ops m=true){e:Env}{s:Hp}{V:Nat->AV}{n:Fr}{I0:Imm}{w0:World}(HI:(Nat->Bool)->Hp->Prop)(Q:Exit->Act->World->Prop)(hd:∀ o∈ops,isDefer o.op=false/\∀ d,o.dst=some d->d<n.1)(hcong:∀ D E t,(∀ j,j<m->D j=E j)->HI D t->HI E t)(hstep:∀ i o D t,i<m->ops[i]? = some o->Closed ops D->D i=false->(∀ p∈prs o,D p=true)->HI D t ->
   GopS P ops o (Z8 ops m V e D) t (fun r t'=>Wk r (V i)/\HI (fun j=>j==i||D j) t'))(hend:∀ J a w t,EnvRel J n a (Z8 ops m V e (fun j=>decide (j<m)))->HI (fun j=>decide (j<m)) t->Rel J t w->Ext I0 s w0 J t w->wpListIn (fw ro) 0 P ops.toArray Q (ops.drop m) a w):
  ∀ (q:Nat) (listed:Array Bool) (J:Imm) (a:Act) (w:World) (t:Hp),listed.size=ops.length->(∀ j,j<ops.length->m<=j->listed.getD j true=false) ->
   Closed ops (fun j=>listed.getD j false) ->
   cnt (fun j=>listed.getD j false) m+q=ops.length->EnvRel J n a (Z8 ops m V e (fun j=>listed.getD j false))->HI (fun j=>listed.getD j false) t->Rel J t w->Ext I0 s w0 J t w ->
   wpAnyIn (fw ro) 0 P .any ops.toArray Q q listed a w:=by
 obtain ⟨hm,hparts⟩:=X9 hok;intro q
 induction q with
 | zero =>
  intro listed J a w t hsz hhi hcl hq he hH hs hx;have hc:=cnt_le (fun j=>listed.getD j false) m
  have hmN:m=ops.length:=by omega
  have hall:=cnt_full (fun j=>listed.getD j false) m (by omega)
  refine any_tail ro hok Q 0 m listed a w (by omega) (Nat.le_refl _) hsz (fun j hj=>?_) (hend J a w t ?_ ?_ hs hx)
  ·have:=hall j (by omega)
   have e1:listed.getD j true=listed.getD j false:=by simp [Array.getD,hsz,hj]
   rw [e1,this];simp;omega
  ·rw [<- W4 ops m V e (D:=fun j=>listed.getD j false) (E:=fun j=>decide (j<m)) (fun j hj=>by
    have h1:listed.getD j false=true:=hall j hj;rw [h1];simp [hj])];exact he
  ·refine hcong _ _ t (fun j hj=>?_) hH
   have h1:listed.getD j false=true:=hall j hj;rw [h1];simp [hj]
 | succ q ih =>
  intro listed J a w t hsz hhi hcl hq he hH hs hx
  by_cases hall:∀ j,j<m->listed.getD j false=true
  ·have hc:=cnt_all (fun j=>listed.getD j false) m hall
   refine any_tail ro hok Q (q+1) m listed a w (by omega) (Nat.le_refl _) hsz (fun j hj=>?_) (hend J a w t ?_ ?_ hs hx)
   ·by_cases hjm:j<m
    ·have:=hall j hjm
     have e1:listed.getD j true=listed.getD j false:=by simp [Array.getD,hsz,hj]
     rw [e1,this];simp [hjm]
    ·rw [hhi j hj (by omega)];simp;omega
   ·rw [<- W4 ops m V e (D:=fun j=>listed.getD j false) (E:=fun j=>decide (j<m)) (fun j hj=>by
    have h1:listed.getD j false=true:=hall j hj;rw [h1];simp [hj])];exact he
   ·refine hcong _ _ t (fun j hj=>?_) hH
    have h1:listed.getD j false=true:=hall j hj;rw [h1];simp [hj]
  ·have hex:∃ i,i<m/\listed.getD i false=false:=by
    apply Classical.byContradiction;intro hne;apply hall;intro j hj
    cases hv:listed.getD j false with
    | true=>rfl
    | false=>exact absurd ⟨j,hj,hv⟩ hne
   obtain ⟨i0,⟨hi0m,hi0⟩,hleast⟩:=Xw _ hex;have hi0N:i0<ops.length:=by omega
   have hother:∀ j,j<ops.length->listed.getD j true=listed.getD j false:=fun j hj=>by simp [Array.getD,hsz,hj]
   have hready0:i0∈Region.ready .any ops.toArray listed:=by
    refine Go.Eng.mem_ready.2 ⟨hi0N,by rw [hother _ hi0N,hi0],_,List.getElem?_eq_getElem hi0N,fun p hp=>?_⟩
    have hp0:=(hparts i0 _ (List.getElem?_eq_getElem hi0N)).1 p hp
    cases hv:listed.getD p false with
    | true=>rfl
    | false=>have:=hleast p ⟨by omega,hv⟩;omega
   refine ⟨fun hnil=>by rw [hnil] at hready0;simp at hready0,fun i hi=>?_⟩
   obtain ⟨hiN,hil,o,ho,hpre⟩:=Go.Eng.mem_ready.1 hi;have hil':listed.getD i false=false:=by rw [<- hother i hiN];exact hil
   have him:i<m:=by
    apply Classical.byContradiction;intro hge;have hr:=(hparts i o ho).2.2 (by omega) i0 (by omega)
    have:=Ys (D:=fun j=>listed.getD j false) hcl _ i i0 o ho hpre hr
    rw [hi0] at this;simp at this
   have hq1:=hstep i o (fun j=>listed.getD j false) t him ho hcl hil' hpre hH
   have hoa:ops.toArray[i]? = some o:=by simpa using ho
   unfold wpOpIn;rw [hoa];refine hq1 ro n J w a he hs (hd o (List.mem_of_getElem? ho)).1 _ Q fun v r t' J' w' h1 h2 h3 h4=>?_
   have hset:∀ j,(listed.setIfInBounds i true).getD j false=(j==i||listed.getD j false):=by
    intro j;simp only [Array.getD_eq_getD_getElem?]
    by_cases hji:i=j
    ·subst hji
     rw [Array.getElem?_setIfInBounds_self_of_lt (by rw [hsz];exact hiN)]
     simp
    ·rw [Array.getElem?_setIfInBounds_ne hji]
     have:(j==i)=false:=by simpa using fun h=>hji h.symm
     simp [this]
   have hfun:(fun j=>(listed.setIfInBounds i true).getD j false)=(fun j=>j==i||listed.getD j false):=funext hset
   refine ih _ J' _ w' t' (by simp [hsz]) (fun j hj hmj=>?_) (fun j o' hj ho' p hp=>?_) ?_ ?_ (by rw [hfun];exact h4.2) h2 (hx.trans h3)
   ·have:=hhi j hj hmj
    simp only [Array.getD_eq_getD_getElem?] at this ⊢;rw [Array.getElem?_setIfInBounds_ne (by omega)];exact this
   ·simp only [] at hj ⊢;rw [hset] at hj ⊢
    simp only [Bool.or_eq_true,beq_iff_eq] at hj ⊢
    rcases hj with rfl | hj
    ·rw [ho] at ho';injection ho' with ho';subst ho'
     exact .inr (hpre p hp)
    ·exact .inr (hcl j o' hj ho' p hp)
   ·rw [hfun,cnt_add (fun j=>listed.getD j false) i hil' m him];omega
   ·rw [hfun]
    have:=slotsAt_put (V:=V) (e:=e) (D:=fun j=>listed.getD j false) (i:=i) (o:=o) him ho (fun j q hj hne hq d hd'=>((hparts i o ho).2.1 him j q d hj hne hq hd').1)
    rw [<- this];exact (he.mono h3.imm).put o.dst (fun d hd'=>(hd o (List.mem_of_getElem? ho)).2 d hd') (h4.1 J' v h1)
theorem AW.mixed{P:Program}{ro:Option Nat}{n:Nat}{id:Nat}{ops:List Oper}{e:Env}{s:Hp}{Q:AX->Env->Hp->Prop}(m:Nat)(V:Nat->AV)(HI:(Nat->Bool)->Hp->Prop)(hf:P.follows .mixedOrders=true)(hok:Yw ops m=true)(hd:okOps n ops=true)(h0:HI (fun _=>false) s)(hcong:∀ D E t,(∀ j,j<m->D j=E j)->HI D t->HI E t)(hstep:∀ i o D t,i<m->ops[i]? = some o->Closed ops D->D i=false->(∀ p∈prs o,D p=true)->HI D t ->
   GopS P ops o (Z8 ops m V e D) t (fun r t'=>Wk r (V i)/\HI (fun j=>j==i||D j) t'))(hend:∀ t,HI (fun j=>decide (j<m)) t->OpsS P ops (ops.drop m) (Z8 ops m V e (fun j=>decide (j<m))) t (fun e'' t=>Q .norm e'' t)):AW ro P n (.region id ops.toArray true) e s Q:=by
 unfold AW;intro ds I w a he hs hir;refine wpIn_region_any hf ?_
 have hsz:(Array.replicate ops.toArray.size false).size=ops.length:=by simp
 have hrep:∀ j,(Array.replicate ops.toArray.size false).getD j false=false:=by
  intro j;simp only [Array.getD_eq_getD_getElem?,Array.getElem?_replicate]
  split <;> rfl
 have hrepF:(fun j=>(Array.replicate ops.toArray.size false).getD j false)=fun _=>false:=funext hrep
 have hcnt:cnt (fun j=>(Array.replicate ops.toArray.size false).getD j false) m=0:=by
  unfold cnt;rw [List.length_eq_zero_iff,List.filter_eq_nil_iff];intro x hx;rw [hrep];simp
 have hlen:ops.toArray.size=ops.length:=by simp
 refine any_mixed ro hok (n:=(n,ds)) (I0:=I) (w0:=w) (s:=s) HI _ (okOps_at hd) hcong hstep (fun J a' w' t h1 h2 h3 h4=>?_) ops.toArray.size _ I a _ s hsz (fun j hj hmj=>?_) (fun j o hj=>?_) (by rw [hcnt,hlen];omega) ?_ (by rw [hrepF];exact h0) hs.drew (Ext.drew I s w)
 ·refine hend t h2 ro (n,ds) J w' a' h1 h3 (fun o ho=>okOps_at hd o (List.mem_of_mem_drop ho)) _ fun e'' t J2 a2 w2 q1 q2 q3 q4=>?_
  exact ⟨.norm,e'',t,J2,ds,trivial,q4,q1,q2,h4.trans q3,Marks.refl _ _ _ _ _⟩
 ·simp only [Array.getD_eq_getD_getElem?,Array.getElem?_replicate]
  rw [if_pos (by rw [hlen];exact hj)];rfl
 ·simp only [] at hj;rw [hrep] at hj;simp at hj
 ·have:Z8 ops m V e (fun j=>(Array.replicate ops.toArray.size false).getD j false)=e:=by
   funext t
   unfold Z8;rw [List.find?_eq_none.2 (fun x hx=>by
    have h1:(Array.replicate ops.toArray.size false).getD x false=false:=hrep x;simp only [h1];simp)]
  rw [this];exact he
theorem openCell_same{st st1:St}{b e j:Nat}{cs:List LV}{c:LV}(h:openCell st b e cs j=some (c,st1)):st.next<=st1.next/\(st1.next=st.next->st1=st):=by
 unfold openCell at h
 split at h <;> simp at h
 ·obtain ⟨_,rfl⟩:=h;simp [St.add,St.set]
 ·obtain ⟨_,rfl⟩:=h;simp [St.add,St.set]
 ·obtain ⟨_,rfl⟩:=h;simp
theorem openCells_same{b:Nat}:∀ (n j:Nat) {st st1:St} {l:List LV},W5 st b j n=some (l,st1)->st.next<=st1.next/\(st1.next=st.next->st1=st)
 | 0,j,st,st1,l,h=>by simp [W5] at h;obtain ⟨_,rfl⟩:=h;simp
 | n+1,j,st,st1,l,h=>by
  unfold W5 at h
  split at h <;> try (simp at h;done)
  split at h <;> try (simp at h;done)
  rename_i c st2 hc
  split at h <;> simp at h
  rename_i l2 st3 hl;obtain ⟨_,rfl⟩:=h
  obtain ⟨h1,h2⟩:=openCell_same hc;obtain ⟨h3,h4⟩:=openCells_same n (j+1) hl;refine ⟨by omega,fun e=>?_⟩
  have e2:st2=st:=h2 (by omega)
  subst e2;exact h4 e
theorem lload_same{P:Program}{t:TypeId}{p v:LV}{st st':St}(h:lload P t p st=some (v,st'))(hn:st'.next=st.next):st'=st:=by
 unfold lload at h
 split at h
 ·split at h
  ·split at h <;> simp at h;exact h.2.symm
  ·split at h <;> try (simp at h;done)
   split at h <;> simp at h
   rename_i l st1 ho;obtain ⟨_,rfl⟩:=h
   exact (openCells_same _ _ ho).2 hn
  ·split at h <;> try (simp at h;done)
   split at h <;> try (simp at h;done)
   split at h <;> simp at h
   exact h.2.symm
  ·simp at h
 ·split at h
  ·split at h <;> simp at h;exact h.2.symm
  ·split at h <;> try (simp at h;done)
   exact (openCell_same h).2 hn
  ·split at h <;> try (simp at h;done)
   split at h <;> try (simp at h;done)
   split at h <;> try (simp at h;done)
   split at h <;> simp at h
   exact h.2.symm
  ·simp at h
 ·simp at h
theorem lopQ_lop{P:Program}{call:Zz}{o:Op}{e:LEnv}{st st':St}{v:LV}(h:lopQ P call o e st=some (v,st')):lop P call o e st=some (v,st'):=by
 unfold lopQ at h
 split at h
 ·rename_i c
  split at h
  ·exact h
  ·rename_i hb
   split at h <;> try (simp at h;done)
   rename_i f as hf
   split at h <;> simp at h
   rename_i hr;obtain ⟨hp,h1,rfl,rfl⟩:=h
   unfold lop;rw [if_pos hr.2];simp only [lopB];unfold lcallOp
   cases hc:c.callee with
   | builtin b=>exact absurd hc (fun e=>hb _ e)
   | _=>simp only [hf,doCall,hr.1,if_true,h1]
 ·exact h
theorem lopQ_free{P:Program}{call:Zz}{o:Op}{e:LEnv}(hq:quietOp o=true)(hm:memFree o=true):∃ F:Option LV,∀ st,lopQ P call o e st=F.map fun v=>(v,st):=by
 refine ⟨(lopQ P call o e ⟨0,[]⟩).map (·.1),fun st=>?_⟩
 cases o <;> simp [quietOp] at hq <;> simp [memFree] at hm
 case call c =>
  unfold lopQ;simp only
  split
  ·rename_i hb;rw [hb] at hm;simp at hm
  ·split
   ·split
    ·rename_i f as _ _
     cases pureCall call f as <;> simp
    ·rfl
   ·rfl
 case makeFunc fn _ _ =>
  cases fn <;> simp only [lopQ,lop,lopB] <;> repeat' split
  all_goals rfl
 all_goals
  simp only [lopQ,lop,lopB]
  repeat' split
  all_goals first | rfl | simp [Option.map_map,Function.comp_def]
theorem lopQ_same{P:Program}{call:Zz}{o:Op}{e:LEnv}{st st':St}{v:LV}(hq:quietOp o=true)(h:lopQ P call o e st=some (v,st'))(hn:st'.next=st.next):st'=st:=by
 by_cases hm:memFree o=true
 ·obtain ⟨F,hF⟩:=lopQ_free (P:=P) (call:=call) (e:=e) hq hm
  rw [hF] at h
  cases F <;> simp at h
  exact h.2.symm
 ·cases o <;> simp [quietOp] at hq <;> simp [memFree] at hm
  case load t x =>
   simp only [lopQ,lop,lopB] at h
   split at h <;> try (simp at h;done)
   exact lload_same h hn
  case slice =>
   simp only [lopQ,lop,lopB] at h
   split at h <;> try (simp at h;done)
   simp at h;obtain ⟨_,_,_,e⟩:=h;exact e.symm
  case lookup =>
   simp only [lopQ,lop,lopB] at h
   split at h <;> try (simp at h;done)
   simp at h;obtain ⟨_,_,_,e⟩:=h;exact e.symm
  case call c =>
   unfold lopQ at h;simp only at h
   split at h
   ·rename_i b hb
    unfold lop at h
    split at h <;> try (simp at h;done)
    simp only [lopB,lcallOp,hb] at h;rw [hb] at hq
    split at h <;> try (simp at hq;done)
    all_goals first | (simp at h;done) | (obtain ⟨_,_,e⟩:=Option.map_eq_some_iff.1 h;exact (Prod.mk.inj e).2.symm) | (simp at h;obtain ⟨_,_,_,e⟩:=h;exact e.symm)
   ·split at h <;> try (simp at h;done)
    split at h <;> simp at h
    obtain ⟨_,_,_,e⟩:=h;exact e.symm
mutual
theorem LV.eqb_eq:∀ (a b:LV),LV.eqb a b=true->a=b
 | .int k n,b,h=>by cases b <;> simp [LV.eqb] at h <;> simp [h]
 | .bool k,b,h=>by cases b <;> simp [LV.eqb] at h <;> simp [h]
 | .str k,b,h=>by cases b <;> simp [LV.eqb] at h <;> simp [h]
 | .nilp,b,h=>by cases b <;> simp [LV.eqb] at h <;> simp
 | .ptr k n,b,h=>by cases b <;> simp [LV.eqb] at h <;> simp [h]
 | .pel k b i o,b',h=>by cases b' <;> simp [LV.eqb] at h <;> simp [h]
 | .irp x,b,h=>by
  cases b <;> simp [LV.eqb] at h
  rw [LV.eqb_eq x _ h]
 | .nils,b,h=>by cases b <;> simp [LV.eqb] at h <;> simp
 | .sl k b i n c,b',h=>by cases b' <;> simp [LV.eqb] at h <;> simp [h]
 | .asl b o n c,b',h=>by cases b' <;> simp [LV.eqb] at h
 | .isl k xs,b,h=>by
  cases b <;> simp [LV.eqb] at h
  rw [h.1,LV.eqbL_eq xs _ h.2]
 | .own e k xs,b,h=>by cases b <;> simp [LV.eqb] at h
 | .nilm,b,h=>by cases b <;> simp [LV.eqb] at h <;> simp
 | .map k,b,h=>by cases b <;> simp [LV.eqb] at h <;> simp [h]
 | .omap k ks vs,b,h=>by cases b <;> simp [LV.eqb] at h
 | .nili,b,h=>by cases b <;> simp [LV.eqb] at h <;> simp
 | .ifc t x,b,h=>by
  cases b <;> simp [LV.eqb] at h
  rw [h.1,LV.eqb_eq x _ h.2]
 | .nilf,b,h=>by cases b <;> simp [LV.eqb] at h <;> simp
 | .fn f a c,b,h=>by cases b <;> simp [LV.eqb] at h
 | .yld l,b,h=>by cases b <;> simp [LV.eqb] at h
 | .agg xs,b,h=>by
  cases b <;> simp [LV.eqb] at h
  rw [LV.eqbL_eq xs _ h]
 | .tup xs,b,h=>by
  cases b <;> simp [LV.eqb] at h
  rw [LV.eqbL_eq xs _ h]
 | .any,b,h=>by cases b <;> simp [LV.eqb] at h <;> simp
theorem LV.eqbL_eq:∀ (a b:List LV),LV.eqbL a b=true->a=b
 | [],b,h=>by cases b <;> simp [LV.eqbL] at h <;> simp
 | x::l,b,h=>by
  cases b <;> simp [LV.eqbL] at h
  rw [LV.eqb_eq x _ h.1,LV.eqbL_eq l _ h.2]
end
theorem openIds_sound{P:Program}:∀ (l:List Nat) {R:Inst} {st:St} {s:Hp},SRel P R st s->∃ R' s',Agree st.next R R'/\st.next<=(openIds l st).next/\s.Perm s'/\SRel P R' (openIds l st) s'
 | [],R,st,s,hs=>⟨R,s,Agree.refl _ _,Nat.le_refl _,.refl _,hs⟩
 | b::l,R,st,s,hs=>by
  unfold openIds
  split
  ·rename_i e cs hl
   split
   ·rename_i vs st1 ho
    obtain ⟨t1,t2,hoe,h2,hp⟩:=hs.focus hl
    cases hoe with
    | box _ _ us t hce =>
     have hm:(R.ρ b,AObj.cells e us us.length)∈s:=hp.mem_iff.2 (by simp)
     obtain ⟨R1,s1,g1,g2,g3,g4,g5,g6,g7⟩:=openCells_sound _ _ hs ⟨cs,hl⟩ hm ho;obtain ⟨R2,s2,k1,k2,k3,k4⟩:=openIds_sound l g7;exact ⟨R2,s2,g1.trans k1 g2,Nat.le_trans g2 k2,g6.trans k3,k4⟩
   ·exact openIds_sound l hs
  ·exact openIds_sound l hs
theorem openFor_sound{P:Program}{l:List Oper}{R:Inst}{st:St}{s:Hp}(hs:SRel P R st s):∃ R' s',Agree st.next R R'/\st.next<=(openFor l st).next/\s.Perm s'/\SRel P R' (openFor l st) s':=by
 unfold openFor
 split
 ·exact openIds_sound _ hs
 ·exact ⟨R,s,Agree.refl _ _,Nat.le_refl _,.refl _,hs⟩
theorem lopN_lop{P:Program}{call:Zz}{o:Op}{e:LEnv}{st st':St}{v:LV}(h:lopN P call o e st=some (v,st')):lop P call o e st=some (v,st'):=by
 unfold lopN at h
 split at h
 ·exact h
 ·exact lopQ_lop h
theorem lopS_alloc{P:Program}{call:Zz}{o:Op}{e:LEnv}{st st1:St}{v:LV}{t:TypeId}(ha:Zy o=some t)(h:lopS P call o e st=some (v,st1)):v=.any/\st1=st:=by
 unfold lopS at h;rw [ha] at h;simp at h;exact ⟨h.1.symm,h.2.symm⟩
theorem lopS_parts{P:Program}{call:Zz}{o:Op}{e:LEnv}{st st1:St}{v:LV}(ha:Zy o=none)(h:lopS P call o e st=some (v,st1)):
  ghostIds o e=[]/\(quietOp o=true∨Xy P o=true)/\lopN P call o e st=some (v,st1)/\st1.next=st.next/\∀ b∈Z5 v,b<st.next:=by
 unfold lopS at h;rw [ha] at h;simp only at h
 split at h <;> try (simp at h;done)
 rename_i h1
 split at h <;> try (simp at h;done)
 rename_i v' st' hq
 split at h <;> simp at h
 rename_i h2;obtain ⟨rfl,rfl⟩:=h
 simp only [Bool.and_eq_true,Bool.or_eq_true,List.isEmpty_iff] at h1;refine ⟨h1.1,h1.2,hq,h2.1,fun b hb=>?_⟩
 simpa using List.all_eq_true.1 h2.2 b hb
theorem gopS_parts{P:Program}{call:Zz}{ops:List Oper}{o:Oper}{e:LEnv}{st st1:St}{v:LV}(h:gopS P call ops o e st=some (v,st1)):
  st1.next=st.next/\(∀ b∈Z5 v,b<st.next)/\(Xy P o.op=false->st1=st):=by
 have key:lopS P call o.op e st=some (v,st1)->st1.next=st.next/\(∀ b∈Z5 v,b<st.next)/\(Xy P o.op=false->st1=st):=fun h=>by
  cases ha:Zy o.op with
  | some t =>
   obtain ⟨rfl,rfl⟩:=lopS_alloc ha h;exact ⟨rfl,by simp [Z5],fun _=>rfl⟩
  | none =>
  obtain ⟨h1,h2,h3,h4,h5⟩:=lopS_parts ha h;exact ⟨h4,h5,fun hns=>lopQ_same (h2.resolve_right (by simp [hns])) (by simpa only [lopN,hns] using h3) h4⟩
 unfold gopS at h
 split at h
 ·exact key h
 ·split at h <;> try (simp at h;done)
  split at h
  ·exact key h
  ·simp at h
   obtain ⟨rfl,rfl⟩:=h
   exact ⟨rfl,by rw [skipV_refs];simp,fun _=>rfl⟩
theorem gopS_free{P:Program}{call:Zz}{ops:List Oper}{o:Oper}{e:LEnv}{st st1 st2:St}{v:LV}(hns:Xy P o.op=false)(hm:memFree o.op=true)(hn:st.next<=st2.next)(h:gopS P call ops o e st=some (v,st1)):
  gopS P call ops o e st2=some (v,st2):=by
 have key:lopS P call o.op e st=some (v,st1)->lopS P call o.op e st2=some (v,st2):=fun h=>by
  cases ha:Zy o.op with
  | some t =>
   obtain ⟨rfl,rfl⟩:=lopS_alloc ha h;unfold lopS;rw [ha]
  | none =>
  obtain ⟨h1,h2,h3,h4,h5⟩:=lopS_parts ha h;obtain ⟨F,hF⟩:=lopQ_free (P:=P) (call:=call) (e:=e) (h2.resolve_right (by simp [hns])) hm
  have h3':lopQ P call o.op e st=some (v,st1):=by simpa only [lopN,hns] using h3
  clear h3
  have h3:=h3';rw [hF] at h3
  cases F with
  | none=>simp at h3
  | some w =>
   simp at h3;obtain ⟨rfl,_⟩:=h3;unfold lopS;rw [ha];simp only;rw [if_pos (by simp only [Bool.and_eq_true,Bool.or_eq_true,List.isEmpty_iff];exact ⟨h1,h2⟩)]
   simp only [lopN,hns,hF];simp only [Option.map_some];rw [if_pos ⟨trivial,List.all_eq_true.2 fun b hb=>by have:=h5 b hb;simp only [decide_eq_true_eq];omega⟩]
 unfold gopS at h ⊢
 split at h
 ·exact key h
 ·split at h <;> try (simp at h;done)
  split at h
  ·rename_i hw
   simp only [hw,if_true];exact key h
  ·rename_i hw
   simp at h;simp only [hw,if_false,h.1]
def gEnv(ops:List Oper)(o:Oper)(e:Env):Env:=fun t=>if t∈o.looksAt ops.toArray then e t else .any []
theorem gopS_alloc{P:Program}{call:Zz}{ops:List Oper}{o:Oper}{e:LEnv}{st st1:St}{v:LV}{t:TypeId}(ha:Zy o.op=some t)(hg:o.guard=none)(h:gopS P call ops o e st=some (v,st1)):v=.any/\st1=st:=by
 unfold gopS at h;rw [hg] at h;exact lopS_alloc ha h
theorem gopS_sound{P:Program}{call:Zz}(hc:Yq P call){ops:List Oper}{o:Oper}{le:LEnv}{st st1:St}{v:LV}{R:Inst}{s:Hp}(hs:SRel P R st s)(he:EWS st.next le)(ha:Zy o.op=none)(h:gopS P call ops o le st=some (v,st1)):
  GopS P ops o (gEnv ops o (Ze R le)) s (fun r t=>LPost P R st v st1 r t):=by
 have opnd:∀ x∈o.op.operands,ev (Ze R le) x=ev (gEnv ops o (Ze R le)) x:=by
  intro x hx
  cases x with
  | tmp t =>
   have:t∈o.looksAt ops.toArray:=by
    unfold Oper.looksAt;apply List.mem_append_left;rw [List.mem_filterMap];exact ⟨_,Array.mem_toList_iff.2 hx,rfl⟩
   show Ze R le t=gEnv ops o (Ze R le) t
   unfold gEnv;rw [if_pos this]
  | const x=>rfl
  | global g=>rfl
  | func f=>rfl
 have key:lopS P call o.op le st=some (v,st1)->aop P o.op (gEnv ops o (Ze R le)) s (fun r t=>LPost P R st v st1 r t):=fun h =>
  aop_congr opnd (lop_sound hc hs he (lopN_lop (lopS_parts ha h).2.2.1))
 unfold gopS at h
 split at h
 ·rename_i hg
  exact GopS.run hg (key h)
 ·rename_i j want hg
  split at h <;> try (simp at h;done)
  rename_i b hb;unfold lguard at hb
  split at hb <;> try (simp at hb;done)
  rename_i d hd
  split at hb <;> simp at hb
  case h_2 hbv =>
   subst hb;rw [if_neg (by cases b <;> simp)] at h
   simp at h;obtain ⟨rfl,rfl⟩:=h
   have hG:gEnv ops o (Ze R le) d=.tup []:=by
    unfold gEnv;rw [if_pos (by
     unfold Oper.looksAt;apply List.mem_append_right;rw [hg];have:(ops.toArray[j]?).bind (·.dst)=some d:=by simpa using hd
     simp only [this,Option.toList_some,List.mem_singleton])]
    simp only [Ze,hbv,Z0,Z1]
   exact GopS.undone hg hd hG (LPost.pure hs (skipV_wk _ _ _) (by rw [skipV_refs];simp))
  rename_i b' hbv;subst hb;have hG:gEnv ops o (Ze R le) d=.v (.bool b'):=by
   unfold gEnv;rw [if_pos (by
    unfold Oper.looksAt;apply List.mem_append_right;rw [hg];have:(ops.toArray[j]?).bind (·.dst)=some d:=by simpa using hd
    simp only [this,Option.toList_some,List.mem_singleton])]
   simp only [Ze,hbv,Z0]
  refine GopS.guarded hg hd hG (fun hw=>?_) (fun hw=>?_)
  ·rw [if_pos hw] at h;exact key h
  ·rw [if_neg hw] at h
   simp at h;obtain ⟨rfl,rfl⟩:=h
   exact LPost.pure hs (skipV_wk _ _ _) (by rw [skipV_refs];simp)
def stN(P:Program)(l:List Oper):Nat:=l.countP fun o=>Xy P o.op
theorem lrunS_at{P:Program}{call:Zz}{ops:List Oper}:∀ (l:List Oper) {e:LEnv} {st:St} {vs:List LV} {S:List St},lrunS P call ops l e st=some (vs,S) ->
  vs.length=l.length/\S.length=stN P l+1/\S[0]? = some st/\(∀ s∈S,s.next=st.next) /\
  ∀ i o,l[i]? = some o->∃ v sa sb,vs[i]? = some v/\S[stN P (l.take i)]? = some sa/\S[stN P (l.take i)+if Xy P o.op then 1 else 0]? = some sb/\gopS P call ops o (Yd (l.take i) (vs.take i) e) sa=some (v,sb)
 | [],e,st,vs,S,h=>by
  simp [lrunS] at h;obtain ⟨rfl,rfl⟩:=h
  refine ⟨rfl,rfl,rfl,by simp,by simp⟩
 | o::l,e,st,vs,S,h=>by
  unfold lrunS at h
  split at h <;> try (simp at h;done)
  rename_i v st1 hg
  split at h <;> simp at h
  rename_i vs1 S1 hr;obtain ⟨rfl,hS⟩:=h
  obtain ⟨h1,h2,h3,h4,h5⟩:=lrunS_at l hr;obtain ⟨g1,g2,g3⟩:=gopS_parts hg;have sS:∀ k,S[k+if Xy P o.op then 1 else 0]? = S1[k]?:=by
   intro k;subst hS
   by_cases hst:Xy P o.op=true <;> simp [hst]
  have sN:∀ k:List Oper,stN P (o::k)=stN P k+if Xy P o.op then 1 else 0:=fun k=>by
   unfold stN;rw [List.countP_cons]
  have s0:S[0]? = some st:=by
   subst hS
   by_cases hst:Xy P o.op=true
   ·simp [hst]
   ·simp only [Bool.not_eq_true] at hst
    simp [hst,h3,g3 hst]
  refine ⟨by simp [h1],?_,s0,fun s hs=>?_,fun i o' ho'=>?_⟩
  ·rw [sN];subst hS
   by_cases hst:Xy P o.op=true
   ·simp [hst,h2]
   ·simp [hst,h2]
  ·subst hS
   split at hs
   ·rcases List.mem_cons.1 hs with rfl | hs
    ·rfl
    ·rw [h4 s hs,g1]
   ·rw [h4 s hs,g1]
  ·cases i with
   | zero =>
    simp at ho';subst ho';refine ⟨v,st,st1,rfl,by simpa [stN] using s0,?_,by simpa [Yd] using hg⟩
    have:=sS 0;simp only [List.take_zero,stN,List.countP_nil,Nat.zero_add] at this ⊢;rw [this];exact h3
   | succ i =>
    simp at ho';obtain ⟨w,sa,sb,q1,q2,q3,q4⟩:=h5 i o' ho';refine ⟨w,sa,sb,by simpa using q1,?_,?_,?_⟩
    ·simp only [List.take_succ_cons,sN];rw [sS];exact q2
    ·simp only [List.take_succ_cons,sN]
     rw [Nat.add_right_comm,sS];exact q3
    ·simpa [Yd] using q4
theorem putsE_snoc(o:Oper)(v:LV)(l:List Oper):∀ (vs:List LV) (e:LEnv),l.length=vs.length->Yd (l++[o]) (vs++[v]) e=(Yd l vs e).put o.dst v:=by
 induction l with
 | nil=>intro vs e h;cases vs with
  | nil=>simp [Yd]
  | cons=>simp at h
 | cons q l ih=>intro vs e h;cases vs with
  | nil=>simp at h
  | cons w vs =>
   simp only [List.cons_append,Yd];exact ih vs _ (by simpa using h)
theorem EWk.put{e e':Env}(h:EWk e e')(d:Option Nat)(r:AV):EWk (e.put d r) (e'.put d r):=by
 intro t
 cases d with
 | none=>exact h t
 | some d =>
  simp only [Env.put,Env.upd]
  split
  ·exact Wk.refl _
  ·exact h t
theorem cnt_succ(E:Nat->Bool)(m:Nat):cnt E (m+1)=cnt E m+if E m then 1 else 0:=by
 unfold cnt;rw [List.range_succ,List.filter_append,List.length_append]
 by_cases hE:E m <;> simp [hE]
theorem cnt_mono{D E:Nat->Bool}:∀ m,(∀ j,j<m->D j=true->E j=true)->cnt D m<=cnt E m
 | 0,h=>by simp [cnt]
 | m+1,h=>by
  rw [cnt_succ,cnt_succ];have:=cnt_mono m fun j hj=>h j (by omega)
  by_cases hd:D m=true
  ·rw [if_pos hd,if_pos (h m (by omega) hd)];omega
  ·rw [if_neg hd];omega
theorem Wo{D E:Nat->Bool}(m:Nat)(h:∀ j,j<m->D j=E j):cnt D m=cnt E m:=
 Nat.le_antisymm (cnt_mono m fun j hj hd=>by rw [<- h j hj];exact hd) (cnt_mono m fun j hj hd=>by rw [h j hj];exact hd)
def isSt(P:Program)(ops:List Oper)(j:Nat):Bool:=(ops[j]?).any fun q=>Xy P q.op
theorem cnt_put(P:Program)(ops:List Oper){D:Nat->Bool}{i m:Nat}{o:Oper}(hD:D i=false)(hi:i<m)(ho:ops[i]? = some o):
  cnt (fun j=>isSt P ops j&&(j==i||D j)) m=cnt (fun j=>isSt P ops j&&D j) m+if Xy P o.op then 1 else 0:=by
 by_cases hs:Xy P o.op=true
 ·rw [if_pos hs]
  rw [<- cnt_add (fun j=>isSt P ops j&&D j) i (by simp [hD]) m hi]
  refine Wo m fun j hj=>?_
  by_cases hji:j=i
  ·subst hji;simp [isSt,ho,hs]
  ·have:(j==i)=false:=by simpa using hji
   simp only [this,Bool.false_or]
 ·rw [if_neg hs]
  refine Wo m fun j hj=>?_
  by_cases hji:j=i
  ·subst hji;simp [isSt,ho,hs]
  ·have:(j==i)=false:=by simpa using hji
   simp only [this,Bool.false_or]
theorem stN_cnt(P:Program)(ops:List Oper){m:Nat}(hm:m<=ops.length):∀ i,i<=m->stN P ((ops.take m).take i)=cnt (fun j=>isSt P ops j&&decide (j<i)) m
 | 0,h=>by
  simp only [List.take_zero,stN,List.countP_nil];rw [Wo (E:=fun _=>false) m (by simp)]
  unfold cnt;rw [List.filter_eq_nil_iff.2 (by simp)];rfl
 | i+1,h=>by
  have hi:i<ops.length:=by omega
  have h1:((ops.take m).take (i+1))=(ops.take m).take i++[ops[i]]:=by
   rw [List.take_take,List.take_take,Nat.min_eq_left h,Nat.min_eq_left (by omega:i<=m)]
   rw [List.take_succ_eq_append_getElem hi]
  rw [h1,stN,List.countP_append];have:=stN_cnt P ops hm i (by omega)
  unfold stN at this;rw [this];have h2:=cnt_put P ops (D:=fun j=>decide (j<i)) (i:=i) (m:=m) (by simp) (by omega) (List.getElem?_eq_getElem hi)
  have h3:cnt (fun j=>isSt P ops j&&decide (j<i+1)) m=cnt (fun j=>isSt P ops j&&(j==i||decide (j<i))) m:=by
   refine Wo m fun j hj=>?_
   congr 1
   rw [Bool.eq_iff_iff];simp;omega
  rw [h3,h2];simp [List.countP_cons]
theorem lohi{P:Program}{ops:List Oper}{m i:Nat}{o:Oper}{D:Nat->Bool}(ho:ops[i]? = some o)(hcl:Closed ops D)(hDi:D i=false)(hpre:∀ p∈prs o,D p=true):
  loOf P ops m i<=cnt (fun j=>isSt P ops j&&D j) m/\cnt (fun j=>isSt P ops j&&D j) m<=hiOf P ops m i:=by
 constructor
 ·unfold loOf
  refine cnt_mono m fun j hj h=>?_
  simp only [Bool.and_eq_true] at h ⊢;exact ⟨h.1,Ys (fun a b c d=>hcl a b c d) _ i j o ho hpre h.2⟩
 ·unfold hiOf
  refine cnt_mono m fun j hj h=>?_
  simp only [Bool.and_eq_true] at h ⊢;refine ⟨h.1,?_,?_⟩
  ·cases hr:reach ops ops.length j i with
   | false=>rfl
   | true =>
    exfalso
    cases hoj:ops[j]? with
    | none=>simp [isSt,hoj] at h
    | some q =>
     have:=Ys (fun a b c d=>hcl a b c d) _ j i q hoj (hcl j q h.2 hoj) hr
     rw [hDi] at this;simp at this
  ·simp only [bne_iff_ne,ne_eq]
   intro e;subst e;rw [hDi] at h;simp at h
theorem lchk_at{P:Program}{call:Zz}{ops:List Oper}{m:Nat}{S:List St}:∀ (l:List Oper) (vs:List LV) (i0:Nat) (e:LEnv),lchk P call ops m S i0 l vs e=true->∀ i o v,l[i]? = some o->vs[i]? = some v ->
  loOf P ops m (i0+i)=hiOf P ops m (i0+i)∨(Xy P o.op=false/\(memFree o.op=true∨∀ k,k<S.length->loOf P ops m (i0+i)<=k->k<=hiOf P ops m (i0+i)->∃ st,S[k]? = some st/\sameAt P call ops o (Yd (l.take i) (vs.take i) e) v st=true))
 | [],vs,i0,e,h,i,o,v,ho,hv=>by simp at ho
 | _::_,[],i0,e,h,i,o,v,ho,hv=>by simp at hv
 | q::l,w::vs,i0,e,h,i,o,v,ho,hv=>by
  unfold lchk at h;simp only [Bool.and_eq_true] at h
  cases i with
  | zero =>
   simp at ho hv;subst ho;subst hv;have h1:=h.1
   split at h1
   ·rename_i he;exact .inl (by simpa using he)
   ·split at h1 <;> try (simp at h1;done)
    rename_i hns;simp only [Bool.not_eq_true] at hns;refine .inr ⟨hns,?_⟩
    split at h1
    ·rename_i hmf;exact .inl hmf
    ·refine .inr fun k hk hlo hhi=>?_
     have:=List.all_eq_true.1 h1 k (List.mem_range.2 hk);rw [if_pos (by simp at hlo hhi ⊢;exact ⟨hlo,hhi⟩)] at this
     cases hS:S[k]? with
     | none=>rw [hS] at this;simp at this
     | some st=>rw [hS] at this;exact ⟨st,rfl,by simpa [Yd] using this⟩
  | succ i =>
   simp at ho hv;have:=lchk_at l vs (i0+1) _ h.2 i o v ho hv;rw [show i0+1+i=i0+(i+1) by omega] at this
   simpa [Yd] using this
theorem at_any'{P:Program}{call:Zz}{ops:List Oper}{m:Nat}{e:LEnv}{st:St}{vs:List LV}{S:List St}(hm:m<=ops.length)(hp:∀ i o,ops[i]? = some o->∀ p∈prs o,p<i)(hr:lrunS P call ops (ops.take m) e st=some (vs,S))(hch:S.length=1∨lchk P call ops m S 0 (ops.take m) vs e=true){i:Nat}{o:Oper}(hi:i<m)(ho:ops[i]? = some o){k:Nat}(hlo:loOf P ops m i<=k)(hhi:k<=hiOf P ops m i):
  ∃ v sa sb,vs[i]? = some v/\S[k]? = some sa/\S[k+if Xy P o.op then 1 else 0]? = some sb/\gopS P call ops o (Yd ((ops.take m).take i) (vs.take i) e) sa=some (v,sb):=by
 obtain ⟨h1,h2,h3,h4,h5⟩:=lrunS_at _ hr;have hlt:(ops.take m)[i]? = some o:=by rw [List.getElem?_take,if_pos hi];exact ho
 obtain ⟨v,sa,sb,q1,q2,q3,q4⟩:=h5 i o hlt;have hidx:=lohi (P:=P) (m:=m) (D:=fun j=>decide (j<i)) ho (fun j q hj hq p hpp=>by
  have:=hp j q hq p hpp;simp at hj ⊢;omega) (by simp) (fun p hpp=>by simpa using hp i o ho p hpp)
 rw [<- stN_cnt P ops hm i (by omega)] at hidx
 have htot:hiOf P ops m i<=stN P (ops.take m):=by
  have:=stN_cnt P ops hm m (Nat.le_refl _);rw [List.take_of_length_le (by simp;omega)] at this
  rw [this];unfold hiOf;refine cnt_mono m fun j hj h=>?_
  simp only [Bool.and_eq_true] at h ⊢;exact ⟨h.1,by simpa using hj⟩
 rcases hch with hS | hch
 ·have:stN P (ops.take m)=0:=by omega
  have hk:k=stN P ((ops.take m).take i):=by omega
  subst hk;exact ⟨v,sa,sb,q1,q2,q3,q4⟩
 ·have:=lchk_at _ vs 0 e hch i o v hlt q1
  simp only [Nat.zero_add] at this
  rcases this with he | ⟨hns,hf⟩
  ·have hk:k=stN P ((ops.take m).take i):=by omega
   subst hk;exact ⟨v,sa,sb,q1,q2,q3,q4⟩
  ·have hkS:k<S.length:=by omega
   rcases hf with hf | hf
   ·have hSk:S[k]? = some S[k]:=List.getElem?_eq_getElem hkS
    have hn:(S[k]).next=sa.next:=by
     rw [h4 _ (List.getElem_mem hkS),h4 _ (List.mem_of_getElem? q2)]
    refine ⟨v,S[k],S[k],q1,hSk,by simp [hns,hSk],gopS_free hns hf (by rw [hn];exact Nat.le_refl _) q4⟩
   ·obtain ⟨st',g1,g2⟩:=hf k hkS hlo hhi
    unfold sameAt at g2
    split at g2 <;> try (simp at g2;done)
    rename_i w st2 hg;have e1:=LV.eqb_eq _ _ g2;have e2:=(gopS_parts hg).2.2 hns;subst e1;subst e2;exact ⟨v,st2,st2,q1,g1,by simp [hns,g1],hg⟩
theorem at_any{P:Program}{call:Zz}{ops:List Oper}{m:Nat}{e:LEnv}{st:St}{vs:List LV}{S:List St}(hok:Yw ops m=true)(hr:lrunS P call ops (ops.take m) e st=some (vs,S))(hch:S.length=1∨lchk P call ops m S 0 (ops.take m) vs e=true){i:Nat}{o:Oper}(hi:i<m)(ho:ops[i]? = some o){k:Nat}(hlo:loOf P ops m i<=k)(hhi:k<=hiOf P ops m i):
  ∃ v sa sb,vs[i]? = some v/\S[k]? = some sa/\S[k+if Xy P o.op then 1 else 0]? = some sb/\gopS P call ops o (Yd ((ops.take m).take i) (vs.take i) e) sa=some (v,sb):=
 at_any' (X9 hok).1 (fun i o ho=>((X9 hok).2 i o ho).1) hr hch hi ho hlo hhi
theorem slotsAt_congrV{ops:List Oper}{m:Nat}{V V':Nat->AV}{e:Env}{D:Nat->Bool}(h:∀ j,D j=true->V j=V' j):Z8 ops m V e D=Z8 ops m V' e D:=by
 funext t
 unfold Z8
 cases hf:(List.range m).find? (fun j=>D j&&((ops[j]?).bind (·.dst)==some t)) with
 | none=>rfl
 | some j =>
  have:=List.find?_some hf;simp only [Bool.and_eq_true] at this;simp only [h j this.1]
theorem any_mixedV{P:Program}{ops:List Oper}{m:Nat}(ro:Option Nat)(hok:Yw ops m=true){e:Env}{s:Hp}{n:Fr}{I0:Imm}{w0:World}(HI:(Nat->Bool)->(Nat->AV)->Hp->Prop)(Q:Exit->Act->World->Prop)(hd:∀ o∈ops,isDefer o.op=false/\∀ d,o.dst=some d->d<n.1)(hcong:∀ D E V t,(∀ j,j<m->D j=E j)->HI D V t->HI E V t)(hstep:∀ i o D V t,i<m->ops[i]? = some o->Closed ops D->D i=false->(∀ p∈prs o,D p=true)->HI D V t ->
   GopS P ops o (Z8 ops m V e D) t (fun r t'=>∃ V':Nat->AV,(∀ j,D j=true->V' j=V j)/\Wk r (V' i)/\HI (fun j=>j==i||D j) V' t'))(hend:∀ J a w V t,EnvRel J n a (Z8 ops m V e (fun j=>decide (j<m)))->HI (fun j=>decide (j<m)) V t->Rel J t w->Ext I0 s w0 J t w->wpListIn (fw ro) 0 P ops.toArray Q (ops.drop m) a w):
  ∀ (q:Nat) (listed:Array Bool) (J:Imm) (a:Act) (w:World) (V:Nat->AV) (t:Hp),listed.size=ops.length->(∀ j,j<ops.length->m<=j->listed.getD j true=false) ->
   Closed ops (fun j=>listed.getD j false) ->
   cnt (fun j=>listed.getD j false) m+q=ops.length->EnvRel J n a (Z8 ops m V e (fun j=>listed.getD j false))->HI (fun j=>listed.getD j false) V t->Rel J t w->Ext I0 s w0 J t w ->
   wpAnyIn (fw ro) 0 P .any ops.toArray Q q listed a w:=by
 obtain ⟨hm,hparts⟩:=X9 hok;intro q
 induction q with
 | zero =>
  intro listed J a w V t hsz hhi hcl hq he hH hs hx;have hc:=cnt_le (fun j=>listed.getD j false) m
  have hmN:m=ops.length:=by omega
  have hall:=cnt_full (fun j=>listed.getD j false) m (by omega)
  refine any_tail ro hok Q 0 m listed a w (by omega) (Nat.le_refl _) hsz (fun j hj=>?_) (hend J a w V t ?_ ?_ hs hx)
  ·have:=hall j (by omega)
   have e1:listed.getD j true=listed.getD j false:=by simp [Array.getD,hsz,hj]
   rw [e1,this];simp;omega
  ·rw [<- W4 ops m V e (D:=fun j=>listed.getD j false) (E:=fun j=>decide (j<m)) (fun j hj=>by
    have h1:listed.getD j false=true:=hall j hj;rw [h1];simp [hj])];exact he
  ·refine hcong _ _ V t (fun j hj=>?_) hH
   have h1:listed.getD j false=true:=hall j hj;rw [h1];simp [hj]
 | succ q ih =>
  intro listed J a w V t hsz hhi hcl hq he hH hs hx
  by_cases hall:∀ j,j<m->listed.getD j false=true
  ·have hc:=cnt_all (fun j=>listed.getD j false) m hall
   refine any_tail ro hok Q (q+1) m listed a w (by omega) (Nat.le_refl _) hsz (fun j hj=>?_) (hend J a w V t ?_ ?_ hs hx)
   ·by_cases hjm:j<m
    ·have:=hall j hjm
     have e1:listed.getD j true=listed.getD j false:=by simp [Array.getD,hsz,hj]
     rw [e1,this];simp [hjm]
    ·rw [hhi j hj (by omega)];simp;omega
   ·rw [<- W4 ops m V e (D:=fun j=>listed.getD j false) (E:=fun j=>decide (j<m)) (fun j hj=>by
    have h1:listed.getD j false=true:=hall j hj;rw [h1];simp [hj])];exact he
   ·refine hcong _ _ V t (fun j hj=>?_) hH
    have h1:listed.getD j false=true:=hall j hj;rw [h1];simp [hj]
  ·have hex:∃ i,i<m/\listed.getD i false=false:=by
    apply Classical.byContradiction;intro hne;apply hall;intro j hj
    cases hv:listed.getD j false with
    | true=>rfl
    | false=>exact absurd ⟨j,hj,hv⟩ hne
   obtain ⟨i0,⟨hi0m,hi0⟩,hleast⟩:=Xw _ hex;have hi0N:i0<ops.length:=by omega
   have hother:∀ j,j<ops.length->listed.getD j true=listed.getD j false:=fun j hj=>by simp [Array.getD,hsz,hj]
   have hready0:i0∈Region.ready .any ops.toArray listed:=by
    refine Go.Eng.mem_ready.2 ⟨hi0N,by rw [hother _ hi0N,hi0],_,List.getElem?_eq_getElem hi0N,fun p hp=>?_⟩
    have hp0:=(hparts i0 _ (List.getElem?_eq_getElem hi0N)).1 p hp
    cases hv:listed.getD p false with
    | true=>rfl
    | false=>have:=hleast p ⟨by omega,hv⟩;omega
   refine ⟨fun hnil=>by rw [hnil] at hready0;simp at hready0,fun i hi=>?_⟩
   obtain ⟨hiN,hil,o,ho,hpre⟩:=Go.Eng.mem_ready.1 hi;have hil':listed.getD i false=false:=by rw [<- hother i hiN];exact hil
   have him:i<m:=by
    apply Classical.byContradiction;intro hge;have hr:=(hparts i o ho).2.2 (by omega) i0 (by omega)
    have:=Ys (D:=fun j=>listed.getD j false) hcl _ i i0 o ho hpre hr
    rw [hi0] at this;simp at this
   have hq1:=hstep i o (fun j=>listed.getD j false) V t him ho hcl hil' hpre hH
   have hoa:ops.toArray[i]? = some o:=by simpa using ho
   unfold wpOpIn;rw [hoa];refine hq1 ro n J w a he hs (hd o (List.mem_of_getElem? ho)).1 _ Q fun v r t' J' w' h1 h2 h3 ⟨V',h4,h5,h6⟩=>?_
   have hset:∀ j,(listed.setIfInBounds i true).getD j false=(j==i||listed.getD j false):=by
    intro j;simp only [Array.getD_eq_getD_getElem?]
    by_cases hji:i=j
    ·subst hji
     rw [Array.getElem?_setIfInBounds_self_of_lt (by rw [hsz];exact hiN)]
     simp
    ·rw [Array.getElem?_setIfInBounds_ne hji]
     have:(j==i)=false:=by simpa using fun h=>hji h.symm
     simp [this]
   have hfun:(fun j=>(listed.setIfInBounds i true).getD j false)=(fun j=>j==i||listed.getD j false):=funext hset
   refine ih _ J' _ w' V' t' (by simp [hsz]) (fun j hj hmj=>?_) (fun j o' hj ho' p hp=>?_) ?_ ?_ (by rw [hfun];exact h6) h2 (hx.trans h3)
   ·have:=hhi j hj hmj
    simp only [Array.getD_eq_getD_getElem?] at this ⊢;rw [Array.getElem?_setIfInBounds_ne (by omega)];exact this
   ·simp only [] at hj ⊢;rw [hset] at hj ⊢
    simp only [Bool.or_eq_true,beq_iff_eq] at hj ⊢
    rcases hj with rfl | hj
    ·rw [ho] at ho';injection ho' with ho';subst ho'
     exact .inr (hpre p hp)
    ·exact .inr (hcl j o' hj ho' p hp)
   ·rw [hfun,cnt_add (fun j=>listed.getD j false) i hil' m him];omega
   ·rw [hfun]
    have hVV:Z8 ops m V e (fun j=>listed.getD j false)=Z8 ops m V' e (fun j=>listed.getD j false):=slotsAt_congrV fun j hj=>(h4 j hj).symm
    have:=slotsAt_put (V:=V') (e:=e) (D:=fun j=>listed.getD j false) (i:=i) (o:=o) him ho (fun j q hj hne hq d hd'=>((hparts i o ho).2.1 him j q d hj hne hq hd').1)
    rw [<- this,<- hVV];exact (he.mono h3.imm).put o.dst (fun d hd'=>(hd o (List.mem_of_getElem? ho)).2 d hd') (h5 J' v h1)
theorem AW.mixedV{P:Program}{ro:Option Nat}{n:Nat}{id:Nat}{ops:List Oper}{e:Env}{s:Hp}{Q:AX->Env->Hp->Prop}(m:Nat)(V0:Nat->AV)(HI:(Nat->Bool)->(Nat->AV)->Hp->Prop)(hf:P.follows .mixedOrders=true)(hok:Yw ops m=true)(hd:okOps n ops=true)(h0:HI (fun _=>false) V0 s)(hcong:∀ D E V t,(∀ j,j<m->D j=E j)->HI D V t->HI E V t)(hstep:∀ i o D V t,i<m->ops[i]? = some o->Closed ops D->D i=false->(∀ p∈prs o,D p=true)->HI D V t ->
   GopS P ops o (Z8 ops m V e D) t (fun r t'=>∃ V':Nat->AV,(∀ j,D j=true->V' j=V j)/\Wk r (V' i)/\HI (fun j=>j==i||D j) V' t'))(hend:∀ V t,HI (fun j=>decide (j<m)) V t->OpsS P ops (ops.drop m) (Z8 ops m V e (fun j=>decide (j<m))) t (fun e'' t=>Q .norm e'' t)):AW ro P n (.region id ops.toArray true) e s Q:=by
 unfold AW;intro ds I w a he hs hir;refine wpIn_region_any hf ?_
 have hsz:(Array.replicate ops.toArray.size false).size=ops.length:=by simp
 have hrep:∀ j,(Array.replicate ops.toArray.size false).getD j false=false:=by
  intro j;simp only [Array.getD_eq_getD_getElem?,Array.getElem?_replicate]
  split <;> rfl
 have hrepF:(fun j=>(Array.replicate ops.toArray.size false).getD j false)=fun _=>false:=funext hrep
 have hcnt:cnt (fun j=>(Array.replicate ops.toArray.size false).getD j false) m=0:=by
  unfold cnt;rw [List.length_eq_zero_iff,List.filter_eq_nil_iff];intro x hx;rw [hrep];simp
 have hlen:ops.toArray.size=ops.length:=by simp
 refine any_mixedV ro hok (n:=(n,ds)) (I0:=I) (w0:=w) (s:=s) HI _ (okOps_at hd) hcong hstep (fun J a' w' V t h1 h2 h3 h4=>?_) ops.toArray.size _ I a _ V0 s hsz (fun j hj hmj=>?_) (fun j o hj=>?_) (by rw [hcnt,hlen];omega) ?_ (by rw [hrepF];exact h0) hs.drew (Ext.drew I s w)
 ·refine hend V t h2 ro (n,ds) J w' a' h1 h3 (fun o ho=>okOps_at hd o (List.mem_of_mem_drop ho)) _ fun e'' t J2 a2 w2 q1 q2 q3 q4=>?_
  exact ⟨.norm,e'',t,J2,ds,trivial,q4,q1,q2,h4.trans q3,Marks.refl _ _ _ _ _⟩
 ·simp only [Array.getD_eq_getD_getElem?,Array.getElem?_replicate]
  rw [if_pos (by rw [hlen];exact hj)];rfl
 ·simp only [] at hj;rw [hrep] at hj;simp at hj
 ·have:Z8 ops m V0 e (fun j=>(Array.replicate ops.toArray.size false).getD j false)=e:=by
   funext t
   unfold Z8;rw [List.find?_eq_none.2 (fun x hx=>by
    have h1:(Array.replicate ops.toArray.size false).getD x false=false:=hrep x;simp only [h1];simp)]
  rw [this];exact he
theorem GopS.frame{P:Program}{ops:List Oper}{o:Oper}{e:Env}{s t:Hp}{K:AV->Hp->Prop}(h:GopS P ops o e s (fun r s'=>K r (s'++t))):GopS P ops o e (s++t) K:=by
 intro ro n I w a he hs hd next Q hn;have hnd:=hs.nodup;rw [Zv] at hnd;obtain ⟨hn1,hn2,hn3⟩:=List.nodup_append.1 hnd;have hs':Rel I s w:=hs.sub (fun p hp=>List.mem_append_left _ hp) hn1
 have hold:∀ b o,(b,o)∈t->b<w.heap.size/\b∉s.keys/\I b=none:=by
  intro b o hb;have hbt:b∈t.keys:=List.mem_map.2 ⟨_,hb,rfl⟩;have hbs:b∈Hp.keys (s++t):=by rw [Zv];exact List.mem_append_right _ hbt
  exact ⟨hs.lt hbs,fun hk=>hn3 b hk b hbt rfl,hs.free b hbs⟩
 refine h ro n I w a he hs' hd next Q fun v r s1 J w' q3 q2 q4 q1=>?_
 have hout:∀ b o,(b,o)∈t->b∉s1.keys:=by
  intro b o hb hk;obtain ⟨h1,h2,h3⟩:=hold b o hb
  rcases q4.own b hk with h | h
  ·omega
  ·exact h2 h
 refine hn v r (s1++t) J w' q3 ⟨q2.imm,fun b o hb=>?_,fun b hb=>?_,?_,q2.gnd⟩ ⟨q4.os,q4.tape,q4.output,q4.size,fun b hb hk=>?_,q4.imm,fun b hb=>?_,fun b h1 h2=>?_⟩ q1
 ·rcases List.mem_append.1 hb with hb | hb
  ·exact q2.obj b o hb
  ·obtain ⟨h1,h2,h3⟩:=hold b o hb
   exact (hs.obj b o (List.mem_append_right _ hb)).move (q4.frame b h1 h2) q4.imm
 ·rw [Zv] at hb
  rcases List.mem_append.1 hb with hb | hb
  ·exact q2.free b hb
  ·obtain ⟨p,hp,rfl⟩:=List.mem_map.1 hb
   obtain ⟨h1,h2,h3⟩:=hold p.1 p.2 hp
   cases hJ:J p.1 with
   | none=>rfl
   | some o =>
    rcases q4.newimm p.1 h3 (by rw [hJ];simp) with h | h
    ·omega
    ·exact absurd h h2
 ·rw [Zv]
  refine List.nodup_append.2 ⟨q2.nodup,hn2,fun b hb b' hb' e=>?_⟩
  subst e;obtain ⟨p,hp,rfl⟩:=List.mem_map.1 hb';exact hout p.1 p.2 hp hb
 ·rw [Zv] at hk
  exact q4.frame b hb fun h=>hk (List.mem_append_left _ h)
 ·rw [Zv] at hb ⊢
  rcases List.mem_append.1 hb with hb | hb
  ·exact (q4.own b hb).imp id (List.mem_append_left _)
  ·exact .inr (List.mem_append_right _ hb)
 ·exact (q4.newimm b h1 h2).imp id fun h=>by rw [Zv];exact List.mem_append_left _ h
def Yc(P:Program)(o:Oper):Option AObj:=(Zy o.op).bind fun t=>(Xp P t).map fun z=>.cells t (z.cells.toList.map .v) z.cells.size
def bxs(P:Program)(ops:List Oper)(m:Nat)(D:Nat->Bool)(q:Nat->Nat):Hp:=(List.range m).filterMap fun j=>if D j then ((ops[j]?).bind (Yc P)).map fun o=>(q j,o) else none
theorem X2{α:Type}{f g:Nat->Option α}:∀ {l:List Nat},(∀ j∈l,g j=f j)->l.filterMap g=l.filterMap f
 | [],_=>rfl
 | j::l,h=>by
  simp only [List.filterMap_cons,h j List.mem_cons_self,X2 fun k hk=>h k (List.mem_cons_of_mem _ hk)]
theorem filterMap_put{α:Type}{f g:Nat->Option α}{i:Nat}{x:α}:∀ {l:List Nat},l.Nodup->i∈l->(∀ j,j≠i->g j=f j)->f i=none->g i=some x->(l.filterMap g).Perm (x::l.filterMap f)
 | [],_,h,_,_,_=>by simp at h
 | j::l,hn,hi,hgf,h1,h2=>by
  obtain ⟨hj,hn⟩:=List.nodup_cons.1 hn
  by_cases e:j=i
  ·subst e
   have:l.filterMap g=l.filterMap f:=X2 fun k hk=>hgf k (by intro e;subst e;exact hj hk)
   simp only [List.filterMap_cons,h1,h2,this];exact .refl _
  ·have hi:i∈l:=by
    rcases List.mem_cons.1 hi with rfl | hi
    ·exact absurd rfl e
    ·exact hi
   have ih:=filterMap_put hn hi hgf h1 h2;simp only [List.filterMap_cons,hgf j e]
   cases f j with
   | none=>exact ih
   | some y=>exact (ih.cons y).trans (.swap x y _)
theorem bxs_put{P:Program}{ops:List Oper}{m:Nat}{D:Nat->Bool}{q:Nat->Nat}{i b:Nat}{o:Oper}{ob:AObj}(hi:i<m)(hD:D i=false)(ho:ops[i]? = some o)(hob:Yc P o=some ob):
  (bxs P ops m (fun j=>j==i||D j) (fun j=>if j=i then b else q j)).Perm ((b,ob)::bxs P ops m D q):=by
 refine filterMap_put List.nodup_range (List.mem_range.2 hi) (fun j hj=>?_) ?_ ?_
 ·have:(j==i)=false:=by simpa using hj
  simp only [this,Bool.false_or,if_neg hj]
 ·simp [hD]
 ·simp [ho,hob]
theorem bxs_same{P:Program}{ops:List Oper}{m:Nat}{D:Nat->Bool}{q:Nat->Nat}{i:Nat}{o:Oper}(ho:ops[i]? = some o)(hob:Yc P o=none):
  bxs P ops m (fun j=>j==i||D j) q=bxs P ops m D q:=by
 refine X2 fun j hj=>?_
 by_cases e:j=i
 ·subst e
  simp [ho,hob]
 ·have:(j==i)=false:=by simpa using e
  simp only [this,Bool.false_or]
theorem bxs_congr{P:Program}{ops:List Oper}{m:Nat}{D E:Nat->Bool}{q:Nat->Nat}(h:∀ j,j<m->D j=E j):bxs P ops m D q=bxs P ops m E q:=
 X2 fun j hj=>by rw [h j (List.mem_range.1 hj)]
inductive AccS (P:Program):List Oper->List LV->St->St->Prop where
 | nil (acc:St):AccS P [] [] acc acc
 | alloc {o:Oper} {t:TypeId} {v:LV} {l:List Oper} {vs:List LV} {acc acc1 a:St} (ht:Zy o.op=some t) (hv:lalloc P t acc=some (v,acc1)) (h:AccS P l vs acc1 a):AccS P (o::l) (v::vs) acc a
 | other {o:Oper} {v:LV} {l:List Oper} {vs:List LV} {acc a:St} (ht:Zy o.op=none) (h:AccS P l vs acc a):AccS P (o::l) (v::vs) acc a
theorem laccs_at{P:Program}:∀ (l:List Oper) {vs ws:List LV} {acc a:St},vs.length=l.length->laccs P l vs acc=some (ws,a)->ws.length=l.length/\AccS P l ws acc a /\
  ∀ (i:Nat) (o:Oper),l[i]? = some o->(Zy o.op=none->ws[i]? = vs[i]?)/\∀ t,Zy o.op=some t->o.guard=none
 | [],vs,ws,acc,a,hl,h=>by
  have:vs=[]:=List.length_eq_zero_iff.1 hl;subst this;simp [laccs] at h;obtain ⟨rfl,rfl⟩:=h
  exact ⟨rfl,.nil _,by simp⟩
 | o::l,[],ws,acc,a,hl,h=>by simp at hl
 | o::l,v::vs,ws,acc,a,hl,h=>by
  unfold laccs at h
  split at h
  ·rename_i t ht
   split at h <;> try (simp at h;done)
   rename_i hg
   split at h <;> try (simp at h;done)
   rename_i w acc1 hv
   split at h <;> simp at h
   rename_i ws1 a1 hr;obtain ⟨rfl,rfl⟩:=h
   obtain ⟨h1,h2,h3⟩:=laccs_at l (by simpa using hl) hr
   refine ⟨by simp [h1],.alloc ht hv h2,fun i o' ho'=>?_⟩
   cases i with
   | zero =>
    simp at ho';subst ho';exact ⟨fun hn=>(by rw [ht] at hn;cases hn),fun _ _=>by simpa using hg⟩
   | succ i=>simpa using h3 i o' (by simpa using ho')
  ·rename_i ht
   split at h <;> simp at h
   rename_i ws1 a1 hr;obtain ⟨rfl,rfl⟩:=h
   obtain ⟨h1,h2,h3⟩:=laccs_at l (by simpa using hl) hr
   refine ⟨by simp [h1],.other ht h2,fun i o' ho'=>?_⟩
   cases i with
   | zero =>
    simp at ho';subst ho';exact ⟨fun _=>rfl,fun t' ht'=>(by rw [ht] at ht';cases ht')⟩
   | succ i=>simpa using h3 i o' (by simpa using ho')
def bxl(P:Program):List Oper->(Nat->Nat)->Nat->Hp
 | [],_,_=>[]
 | o::l,q,i=>(match Yc P o with | some ob=>[(q i,ob)] | none=>[])++bxl P l q (i+1)
theorem HpWk.app{s t:Hp}(x:Hp)(h:HpWk s t):HpWk (x++s) (x++t):=by
 refine ⟨fun p hp=>?_,fun hn=>?_⟩
 ·rcases List.mem_append.1 hp with hp | hp
  ·exact ⟨p.2,List.mem_append_left _ hp,.refl _⟩
  ·obtain ⟨o,h1,h2⟩:=h.mem p hp
   exact ⟨o,List.mem_append_right _ h1,h2⟩
 ·rw [Zv] at hn ⊢
  obtain ⟨h1,h2,h3⟩:=List.nodup_append.1 hn;exact List.nodup_append.2 ⟨h1,h.nd h2,fun a ha b hb=>h3 a ha b (h.keys b hb)⟩
theorem acc_sound{P:Program}{l:List Oper}{vs:List LV}{acc a:St}(h:AccS P l vs acc a):∀ (R:Inst) (s:Hp) (q:Nat->Nat) (i:Nat),SRel P R acc s->(Hp.keys (bxl P l q i++s)).Nodup ->
  ∃ R' s',Agree acc.next R R'/\acc.next<=a.next/\SRel P R' a s'/\HpWk (bxl P l q i++s) s' /\
   ∀ j o v,l[j]? = some o->vs[j]? = some v->(Zy o.op).isSome=true->(∀ b∈Z5 v,b<a.next)/\Wk (.v (.pointer (some ⟨q (i+j),0,none⟩))) (Z0 R' true v):=by
 induction h with
 | nil acc=>exact fun R s q i hs hn=>⟨R,s,Agree.refl _ _,Nat.le_refl _,hs,HpWk.refl _,by simp⟩
 | @alloc o t v l vs acc acc1 a ht hv h ih =>
  intro R s q i hs hn;have h0:=lalloc_sound hs hv;unfold aalloc at h0
  cases hz:Xp P t with
  | none=>rw [hz] at h0;exact h0.elim
  | some z =>
   rw [hz] at h0;have hob:Yc P o=some (.cells t (z.cells.toList.map .v) z.cells.size):=by simp [Yc,ht,hz]
   have eb:bxl P (o::l) q i++s=(q i,.cells t (z.cells.toList.map .v) z.cells.size)::(bxl P l q (i+1)++s):=by simp [bxl,hob]
   rw [eb] at hn ⊢;have hq:q i∉s.keys:=fun hk=>(List.nodup_cons.1 hn).1 (by
    show q i∈Hp.keys (bxl P l q (i+1)++s)
    rw [Zv];exact List.mem_append_right _ hk)
   obtain ⟨R1,s1,k1,k2,k3,k4,k5,k6⟩:=h0 (q i) hq;have hperm:((q i,AObj.cells t (z.cells.toList.map .v) z.cells.size)::(bxl P l q (i+1)++s)).Perm (bxl P l q (i+1)++((q i,.cells t (z.cells.toList.map .v) z.cells.size)::s)):=List.perm_middle.symm;have hw:HpWk ((q i,AObj.cells t (z.cells.toList.map .v) z.cells.size)::(bxl P l q (i+1)++s)) (bxl P l q (i+1)++s1):=(HpWk.perm hperm).trans (HpWk.app _ k5);obtain ⟨R2,s2,g1,g2,g3,g4,g5⟩:=ih R1 s1 q (i+1) k6 (hw.nd hn);refine ⟨R2,s2,k1.trans g1 k2,Nat.le_trans k2 g2,g3,hw.trans g4,fun j o' v' ho' hv' ha=>?_⟩
   cases j with
   | zero =>
    simp at ho' hv';subst ho';subst hv';refine ⟨fun b hb=>Nat.lt_of_lt_of_le (k4 b hb) g2,?_⟩
    rw [Yi g1 true k4];exact k3
   | succ j =>
    have:=g5 j o' v' (by simpa using ho') (by simpa using hv') ha
    rw [show i+1+j=i+(j+1) by omega] at this
    exact this
 | @other o v l vs acc a ht h ih =>
  intro R s q i hs hn;have hob:Yc P o=none:=by simp [Yc,ht]
  have eb:bxl P (o::l) q i=bxl P l q (i+1):=by simp [bxl,hob]
  rw [eb] at hn ⊢;obtain ⟨R2,s2,g1,g2,g3,g4,g5⟩:=ih R s q (i+1) hs hn;refine ⟨R2,s2,g1,g2,g3,g4,fun j o' v' ho' hv' ha=>?_⟩
  cases j with
  | zero =>
   simp at ho' hv';subst ho';rw [ht] at ha;simp at ha
  | succ j =>
   have:=g5 j o' v' (by simpa using ho') (by simpa using hv') ha
   rw [show i+1+j=i+(j+1) by omega] at this
   exact this
theorem bxs_bxl{P:Program}{ops:List Oper}{q:Nat->Nat}:∀ (m i:Nat),i+m<=ops.length->(List.range' i m).filterMap (fun j=>((ops[j]?).bind (Yc P)).map fun o=>(q j,o))=bxl P ((ops.drop i).take m) q i
 | 0,i,h=>by simp [bxl]
 | m+1,i,h=>by
  have hi:i<ops.length:=by omega
  rw [List.drop_eq_getElem_cons hi,List.take_succ_cons,List.range'_succ,List.filterMap_cons,List.getElem?_eq_getElem hi];have ih:=bxs_bxl (P:=P) (ops:=ops) (q:=q) m (i+1) (by omega)
  rw [ih];simp only [Option.bind_some]
  cases hob:Yc P ops[i] <;> simp [bxl,hob]
theorem bxs_all{P:Program}{ops:List Oper}{m:Nat}{q:Nat->Nat}(hm:m<=ops.length):bxs P ops m (fun j=>decide (j<m)) q=bxl P (ops.take m) q 0:=by
 have h:=bxs_bxl (P:=P) (ops:=ops) (q:=q) m 0 (by omega)
 rw [List.drop_zero] at h;rw [<- h,<- List.range_eq_range'];refine X2 fun j hj=>?_
 have:=List.mem_range.1 hj;simp [this]
theorem gath_ok(P:Program)(st:St):∀ (n:Nat) (w acc:List Nat),acc.Nodup->(gath P st n w acc).Nodup/\∃ t,gath P st n w acc=acc++t
 | 0,w,acc,h=>⟨h,[],by simp [gath]⟩
 | n+1,[],acc,h=>⟨h,[],by simp [gath]⟩
 | n+1,b::w,acc,h=>by
  unfold gath
  split
  ·exact gath_ok P st n w acc h
  ·rename_i hb
   split
   ·exact gath_ok P st n w acc h
   ·rename_i o _
    have hn:(acc++[b]).Nodup:=by
     rw [List.nodup_append];refine ⟨h,by simp,fun x hx y hy e=>?_⟩
     simp at hy;subst hy;subst e;exact hb (by simpa using hx)
    obtain ⟨h1,t,h2⟩:=gath_ok P st n (Y1 P o++w) (acc++[b]) hn;exact ⟨h1,b::t,by rw [h2];simp⟩
theorem canonIds_ok(P:Program)(m:Nat)(vs:List LV)(st:St):(W3 P m vs st).Nodup/\m<=(W3 P m vs st).length/\∀ b,b<m->(W3 P m vs st)[b]? = some b:=by
 obtain ⟨h1,t,h2⟩:=gath_ok P st gfuel (orefsAll P st (List.range m)++Z9 vs) (List.range m) List.nodup_range;unfold W3;refine ⟨h1,by rw [h2];simp,fun b hb=>?_⟩
 rw [h2,List.getElem?_append_left (by simpa using hb)]
 simp [hb]
theorem re_agree(R:Inst){m:Nat}{ks:List Nat}(h:∀ b,b<m->ks[b]? = some b):Agree m R (R.re ks):=fun b hb=>re_at R (h b hb)
theorem get_renL(r:Nat->Option Nat)(le:LEnv)(t:Nat):LEnv.get (Wb r le) t=ren r (le.get t):=by
 unfold LEnv.get;rw [renL_map,List.getD_eq_getElem?_getD,List.getD_eq_getElem?_getD,List.getElem?_map]
 cases le[t]? <;> simp [ren]
theorem get_scrub(mask:Nat):∀ (le:LEnv) (i t:Nat),LEnv.get (scrubF mask le i) t=le.get t∨LEnv.get (scrubF mask le i) t=.any
 | [],i,t=>by left;simp [scrubF]
 | x::le,i,0=>by
  simp only [scrubF,LEnv.get,List.getD_cons_zero]
  split
  ·exact .inl rfl
  ·exact .inr rfl
 | x::le,i,t+1=>by
  have:=get_scrub mask le (i+1) t;simpa [scrubF,LEnv.get] using this
theorem HpWk.of_parts{s s0 s1 rest:Hp}(h:s.Perm (s0++rest))(k:HW s0 s1):HpWk s s1:=
 (HpWk.perm h).trans ((HpWk.sub (List.sublist_append_left s0 rest)).trans k.wk)
theorem tidy_sound{P:Program}{R:Inst}{st:St}{s:Hp}{m mask:Nat}{le:LEnv}(hs:SRel P R st s): 
  ∃ R' s',Agree m R R'/\m<=(tidy P m mask le st).2.next/\SW (Ze R le) (Ze R' (tidy P m mask le st).1) s s'/\SRel P R' (tidy P m mask le st).2 s'/\EWS (tidy P m mask le st).2.next (tidy P m mask le st).1:=by
 unfold tidy;simp only;obtain ⟨h1,h2,h3⟩:=canonIds_ok P m (scrubF mask le 0) st;obtain ⟨s0,s1,rest,g1,g2,g3,_⟩:=recanon_sound hs h1;refine ⟨_,s1,re_agree R h3,h2,SW.wk (fun t=>?_) (HpWk.of_parts g3 g2),g1,fun t b hb=>?_⟩
 ·unfold Ze
  rw [get_renL]
  rcases get_scrub mask le 0 t with e | e <;> rw [e]
  ·exact ren_wk (re_ok R _) _
  ·simp only [ren,Z0];exact Wk.any _ _
 ·rw [get_renL] at hb
  exact ren_refs (fun b i hb=>ixOf_lt hb) _ b hb
theorem AWm.kn{P:Program}{ro:Option Nat}{n:Nat}{c:Code}{e:Env}{s:Hp}{Q:AX->Env->Hp->Prop}(h:AW ro P n c e s (fun x e t=>t.keys.Nodup->Q x e t)):AW ro P n c e s Q:=by
 unfold AW at h ⊢;intro ds I w a h1 h2 h3;exact wpIn_mono (h ds I w a h1 h2 h3) fun x a' w' ⟨ax,e1,t,J,ds',q1,q2,q3,q4,q5,q6⟩=>⟨ax,e1,t,J,ds',q1,q2 q4.nodup,q3,q4,q5,q6⟩
def axOf:LX->AX
 | .norm=>.norm
 | .exit i=>.exit i
 | .ret=>.ret
def LQ(P:Program)(m:Nat)(R:Inst)(x:LX)(le':LEnv)(st':St)(ax:AX)(e:Env)(t:Hp):Prop:=ax=axOf x/\LEnd' P m R le' st' e t
theorem instE_agree{n:Nat}{R R':Inst}(ha:Agree n R R'){le:LEnv}(he:EWS n le):Ze R' le=Ze R le:=by
 funext t;unfold Ze;exact Yi ha true (he t)
theorem EWk.trans{a b c:Env}(h:EWk a b)(k:EWk b c):EWk a c:=fun t=>(h t).trans (k t)
theorem puts_ews{N:Nat}{l:List Oper}{ws:List LV}{le:LEnv}(hl:ws.length=l.length)(he:EWS N le)(hr:∀ (j:Nat) (v:LV),ws[j]? = some v->∀ b∈Z5 v,b<N):∀ i,i<=l.length->EWS N (Yd (l.take i) (ws.take i) le)
 | 0,_=>by simpa [Yd] using he
 | i+1,hi=>by
  have hio:i<l.length:=by omega
  have hiv:i<ws.length:=by omega
  rw [List.take_succ_eq_append_getElem hio,List.take_succ_eq_append_getElem hiv,putsE_snoc _ _ _ _ _ (by simp [hl])]
  exact put_ews (puts_ews hl he hr i (by omega)) (Nat.le_refl _) _ (hr i _ (List.getElem?_eq_getElem hiv))
theorem puts_env{N:Nat}{ops:List Oper}{m:Nat}(hok:Yw ops m=true){R:Inst}{V:Nat->AV}{ws:List LV}{le:LEnv}(hl:ws.length=m)(he:EWS N le)(hr:∀ (j:Nat) (v:LV),ws[j]? = some v->∀ b∈Z5 v,b<N)(hw:∀ (j:Nat) (v:LV),ws[j]? = some v->Wk (V j) (Z0 R true v)):∀ i,i<=m->EWk (Z8 ops m V (Ze R le) (fun j=>decide (j<i))) (Ze R (Yd ((ops.take m).take i) (ws.take i) le)):=by
 obtain ⟨hml,hparts⟩:=X9 hok;have htl:(ops.take m).length=m:=by rw [List.length_take];omega
 intro i
 induction i with
 | zero =>
  intro _;have:Z8 ops m V (Ze R le) (fun j=>decide (j<0))=Ze R le:=by
   funext t
   unfold Z8;rw [List.find?_eq_none.2 (by simp)]
  rw [this];simp only [List.take_zero,Yd];exact EWk.refl _
 | succ i ih =>
  intro hi;have hio:i<(ops.take m).length:=by omega
  have hiv:i<ws.length:=by omega
  have hin:i<ops.length:=by omega
  have ho:ops[i]? = some ops[i]:=List.getElem?_eq_getElem hin;rw [List.take_succ_eq_append_getElem hio,List.take_succ_eq_append_getElem hiv,putsE_snoc _ _ _ _ _ (by simp [htl,hl])]
  have hput:=slotsAt_put (V:=V) (e:=Ze R le) (D:=fun j=>decide (j<i)) (i:=i) (o:=ops[i]) (by omega) ho (fun j q hj hne hq d hd=>((hparts i _ ho).2.1 (by omega) j q d hj hne hq hd).1)
  have hD:Z8 ops m V (Ze R le) (fun j=>j==i||decide (j<i))=Z8 ops m V (Ze R le) (fun j=>decide (j<i+1)):=by
   congr 1
   funext j
   rw [Bool.eq_iff_iff];simp;omega
  rw [<- hD,<- hput];have hoi:(ops.take m)[i]=ops[i]:=by simp
  rw [hoi];exact EWk.trans (EWk.put (ih (by omega)) _ _) (put_ewk (Agree.refl _ _) (puts_ews (by omega) he hr i (by omega)) _ (hw i _ (List.getElem?_eq_getElem hiv)))
theorem OpsS.kn{P:Program}{ops l:List Oper}{e:Env}{s:Hp}{K:Env->Hp->Prop}(h:s.keys.Nodup->OpsS P ops l e s K):OpsS P ops l e s K:=
 fun ro n I w a h1 h2 h3 Q hq=>h h2.nodup ro n I w a h1 h2 h3 Q hq
theorem acc_zero{P:Program}{l:List Oper}{vs:List LV}{acc a:St}(h:AccS P l vs acc a):∀ (i:Nat) (o:Oper) (t:TypeId),l[i]? = some o->Zy o.op=some t->∃ z,Xp P t=some z:=by
 induction h with
 | nil=>intro i o t ho;simp at ho
 | alloc ht hv h ih =>
  intro i o t ho ha
  cases i with
  | zero =>
   simp at ho;subst ho;rw [ht] at ha;injection ha with ha
   subst ha;unfold lalloc at hv
   split at hv <;> simp at hv
   rename_i z hz;unfold zelem at hz
   split at hz
   ·exact ⟨_,by assumption⟩
   ·simp at hz
  | succ i=>exact ih i o t (by simpa using ho) ha
 | other ht h ih =>
  intro i o t ho ha
  cases i with
  | zero =>
   simp at ho;subst ho;rw [ht] at ha;simp at ha
  | succ i=>exact ih i o t (by simpa using ho) ha
theorem allocT_some{o:Op}{t:TypeId}(h:Zy o=some t):o=.alloc t:=by
 cases o <;> simp [Zy] at h
 rw [h]
theorem GopS.kn{P:Program}{ops:List Oper}{o:Oper}{e:Env}{s:Hp}{K:AV->Hp->Prop}(h:s.keys.Nodup->GopS P ops o e s K):GopS P ops o e s K:=
 fun ro n I w a h1 h2 h3 next Q hn=>h h2.nodup ro n I w a h1 h2 h3 next Q hn
theorem putsE_app:∀ {l1 l2:List Oper} {v1 v2:List LV} {e:LEnv},l1.length=v1.length->Yd (l1++l2) (v1++v2) e=Yd l2 v2 (Yd l1 v1 e)
 | [],l2,[],v2,e,h=>rfl
 | [],_,_::_,_,_,h=>by simp at h
 | _::_,_,[],_,_,h=>by simp at h
 | o::l,l2,v::vs,v2,e,h=>by
  simp only [List.cons_append,Yd];exact putsE_app (by simpa using h)
theorem floatOk_at{P:Program}{ops:List Oper}{m:Nat}(h:floatOk P ops m=true):m<ops.length/\∀ i o,ops[i]? = some o->m<=i->Zy o.op=none/\∀ j,j<i->reach ops ops.length i j=true∨(j<m/\freeAt P ops j=true):=by
 unfold floatOk at h;rw [Bool.and_eq_true,List.all_eq_true] at h;refine ⟨by simpa using h.1,fun i o ho hi=>?_⟩
 have hl:=(List.getElem?_eq_some_iff.1 ho).1;have:=h.2 i (List.mem_range.2 hl);simp only [ho,Option.any_some,Bool.or_eq_true,decide_eq_true_eq,Bool.and_eq_true,Option.isNone_iff_eq_none,List.all_eq_true,List.mem_range] at this
 rcases this with h1 | ⟨h1,h2⟩
 ·omega
 ·exact ⟨h1,h2⟩
theorem bxs_congrA{P:Program}{ops:List Oper}{m:Nat}{D E:Nat->Bool}{q:Nat->Nat}(h:∀ j o,j<m->ops[j]? = some o->Zy o.op≠none->D j=E j):bxs P ops m D q=bxs P ops m E q:=
 X2 fun j hj=>by
  cases ho:ops[j]? with
  | none=>simp
  | some o =>
   by_cases ha:Zy o.op=none
   ·have:Yc P o=none:=by simp [Yc,ha]
    simp [this]
   ·rw [h j o (List.mem_range.1 hj) ho ha]
theorem lregB_sound{P:Program}{call:Zz}(hc:Yq P call)(hf:P.follows .mixedOrders=true){F:Fm}{ops:List Oper}{le le':LEnv}{st st':St}{R:Inst}{s:Hp}{id:Nat}(hokn:okOps F.n ops=true)(h:lregB P call ops le st=some (le',st'))(hs:SRel P R st s)(he:EWS st.next le)(hm:F.m<=st.next):AW none P F.n (.region id ops.toArray true) (Ze R le) s (LQ P F.m R .norm le' st'):=by
 unfold lregB at h;simp only at h;generalize lineB P ops ops.length=m at h
 split at h <;> try (simp at h;done)
 rename_i hokf;rw [Bool.and_eq_true] at hokf;obtain ⟨hok,hfl⟩:=hokf
 split at h <;> try (simp at h;done)
 rename_i vs S hrun
 split at h <;> try (simp at h;done)
 rename_i hch
 split at h <;> try (simp at h;done)
 rename_i stK hlast
 split at h <;> try (simp at h;done)
 rename_i ws stA hlac
 split at h <;> try (simp at h;done)
 rename_i us T hrunB
 split at h <;> simp at h
 rename_i stZ hlastB;obtain ⟨rfl,rfl⟩:=h
 obtain ⟨_,hparts⟩:=X9 hok;obtain ⟨hmN,hfl⟩:=floatOk_at hfl;generalize hN:ops.length=N at *;obtain ⟨R0,s0,a1,a2,a3,a4⟩:=openFor_sound (l:=ops) hs;generalize openFor ops st=st0 at *;have he0:EWS st0.next le:=fun t b hb=>Nat.lt_of_lt_of_le (he t b hb) a2
 refine AWm.wk (e':=Ze R0 le) (s':=s0) ?_ (by rw [instE_agree a1 he];exact EWk.refl _) (HpWk.perm a3)
 have htl:(ops.take m).length=m:=by rw [List.length_take];omega
 have hdl:(ops.drop m).length=N-m:=by rw [List.length_drop];omega
 obtain ⟨h1,h2,h3,h4,h5⟩:=lrunS_at _ hrun;obtain ⟨k1,k2,k3,k4,k5⟩:=lrunS_at _ hrunB;have hvl:vs.length=m:=by rw [h1,htl]
 obtain ⟨w1,hacc,w3⟩:=laccs_at _ h1 hlac;have hwl:ws.length=m:=by rw [w1,htl]
 have hul:us.length=N-m:=by rw [k1,hdl]
 have hat:∀ i o,i<m->ops[i]? = some o->(ops.take m)[i]? = some o:=fun i o hi ho=>by rw [List.getElem?_take,if_pos hi];exact ho
 have hsome:∀ j,j<N->∃ o,ops[j]? = some o:=fun j hj=>⟨ops[j]'(by omega),List.getElem?_eq_getElem (by omega)⟩
 have hprs:∀ i o,ops[i]? = some o->∀ p∈prs o,p<i:=fun i o ho=>(hparts i o ho).1
 have vsr:∀ (i:Nat) (v:LV),vs[i]? = some v->∀ b∈Z5 v,b<st0.next:=fun i v hv=>by
  have hi:i<(ops.take m).length:=by rw [<- h1];exact (List.getElem?_eq_some_iff.1 hv).1
  obtain ⟨w,sa,sb,q1,q2,q3,q4⟩:=h5 i _ (List.getElem?_eq_getElem hi);rw [hv] at q1;injection q1 with q1;subst q1
  have:=(gopS_parts q4).2.1;rw [h4 sa (List.mem_of_getElem? q2)] at this;exact this
 have hany:∀ (i:Nat) (o:Oper) (t:TypeId),i<m->ops[i]? = some o->Zy o.op=some t->o.guard=none/\vs[i]? = some .any:=fun i o t hi ho ha=>by
  have hg:=(w3 i o (hat i o hi ho)).2 t ha;obtain ⟨w,sa,sb,q1,q2,q3,q4⟩:=h5 i o (hat i o hi ho);obtain ⟨rfl,_⟩:=gopS_alloc ha hg q4;exact ⟨hg,q1⟩
 have hfree:∀ j o,ops[j]? = some o->freeAt P ops j=true->memFree o.op=true/\Xy P o.op=false/\Zy o.op=none:=fun j o ho hj=>by
  simpa [freeAt,ho,and_assoc] using hj
 let xs:List LV:=ws++us
 have hxl:xs.length=N:=by simp only [xs,List.length_append];omega
 let vN:List LV:=vs++List.replicate (N-m) .any
 have hvN:vN.length=N:=by simp only [vN,List.length_append,List.length_replicate];omega
 have vNr:∀ (j:Nat) (v:LV),vN[j]? = some v->∀ b∈Z5 v,b<st0.next:=fun j v hj=>by
  by_cases hjm:j<m
  ·refine vsr j v ?_
   rw [<- hj];simp only [vN];rw [List.getElem?_append_left (by omega)]
  ·have:v=.any:=by
    simp only [vN] at hj;rw [List.getElem?_append_right (by omega),List.getElem?_replicate] at hj
    split at hj <;> simp at hj
    exact hj.symm
   subst this;simp [Z5]
 have vNt:∀ i,i<=m->vN.take i=vs.take i:=fun i hi=>by
  simp only [vN];rw [List.take_append_of_le_length (by omega)]
 let Vof:(Nat->Nat)->Nat->AV:=fun q j=>match (ops[j]?).bind (fun o=>Zy o.op) with
  | some _=>.v (.pointer (some ⟨q j,0,none⟩))
  | none=>Z0 R0 true (vs.getD j .any)
 let P1:(Nat->Bool)->(Nat->AV)->Hp->Prop:=fun D V t=>(∀ j,m<=j->j<N->D j=false)/\∃ q R' s' sk,Agree st0.next R0 R'/\HpWk t (bxs P ops m D q++s')/\S[cnt (fun j=>isSt P ops j&&D j) m]? = some sk/\SRel P R' sk s'/\∀ j,j<m->D j=true->V j=Vof q j
 let P2:(Nat->Bool)->(Nat->AV)->Hp->Prop:=fun D V t=>∃ k R2 s2 sk,k<=N-m/\(∀ j,j<m->freeAt P ops j=false->D j=true)/\(∀ j,m<=j->j<N->D j=decide (j<m+k)) /\
  Agree st0.next R0 R2/\st0.next<=stA.next/\T[stN P ((ops.drop m).take k)]? = some sk/\SRel P R2 sk s2/\HpWk t s2/\(∀ (j:Nat) (v:LV),xs[j]? = some v->∀ b∈Z5 v,b<stA.next)/\(∀ (j:Nat) (v:LV),j<N->D j=true->xs[j]? = some v->Wk (V j) (Z0 R2 true v))
 have envOk:∀ (D:Nat->Bool) (V:Nat->AV) (R2:Inst) (ys:List LV) (nx i:Nat) (o:Oper),ys.length=N->Agree st0.next R0 R2->st0.next<=nx->(∀ (j:Nat) (v:LV),ys[j]? = some v->∀ b∈Z5 v,b<nx)->(∀ (j:Nat) (v:LV),j<N->D j=true->ys[j]? = some v->Wk (V j) (Z0 R2 true v)) ->
   i<N->ops[i]? = some o->Closed ops D->D i=false->(∀ p∈prs o,D p=true)->EWk (Z8 ops N V (Ze R0 le) D) (gEnv ops o (Ze R2 (Yd (ops.take i) (ys.take i) le))):=by
  intro D V R2 ys nx i o hyl hag hnx hyr hyw hi ho hcl hDi hpre t';unfold gEnv
  split
  ·rename_i ht'
   let Vh:Nat->AV:=fun j=>if D j then V j else Z0 R2 true (ys.getD j .any)
   have e1:Z8 ops N V (Ze R0 le) D=Z8 ops N Vh (Ze R0 le) D:=slotsAt_congrV fun j hj=>by simp [Vh,hj]
   have hrd:∀ j,j<i->reach ops ops.length i j=true->D j=true:=fun j hj hr=>Ys (fun a b c d=>hcl a b c d) _ i j o ho hpre hr
   rw [e1,<- slot_any (m:=N) (by rw [<- hN] at hok ⊢;exact hok) hi ho hrd hDi t' ht',<- instE_agree hag he0]
   have hpe:=puts_env (ops:=ops) (m:=N) (N:=nx) (by rw [<- hN] at hok ⊢;exact hok) (R:=R2) (V:=Vh) (ws:=ys) (le:=le) hyl (fun t b hb=>Nat.lt_of_lt_of_le (he0 t b hb) hnx) hyr (fun j w hj=>?_) i (by omega) t'
   ·rw [List.take_of_length_le (l:=ops) (by omega)] at hpe
    exact hpe
   ·have hjN:j<N:=by rw [<- hyl];exact (List.getElem?_eq_some_iff.1 hj).1
    simp only [Vh]
    split
    ·rename_i hDj
     exact hyw j w hjN hDj hj
    ·simp only [List.getD_eq_getElem?_getD,hj,Option.getD_some]
     exact Wk.refl _
  ·exact Wk.any _ _
 have turn:∀ (D:Nat->Bool) (V:Nat->AV) (t:Hp),t.keys.Nodup->(∀ j,j<m->freeAt P ops j=false->D j=true)->P1 D V t->P2 D V t:=by
  rintro D V t hn hall ⟨hD0,q,R',s',sk,g1,g2,g3,g4,g5⟩;have hst:∀ j,j<m->isSt P ops j=true->D j=true:=fun j hj hs'=>hall j hj (by
   obtain ⟨o,ho⟩:=hsome j (by omega)
   cases hfr:freeAt P ops j with
   | false=>rfl
   | true =>
    have:=(hfree j o ho hfr).2.1;simp [isSt,ho,this] at hs')
  have hk:cnt (fun j=>isSt P ops j&&D j) m=S.length-1:=by
   have hc:=stN_cnt P ops (m:=m) (by omega) m (Nat.le_refl _)
   rw [List.take_take,Nat.min_self] at hc;rw [h2,hc,Nat.add_sub_cancel];refine Wo m fun j hj=>?_
   cases hs':isSt P ops j with
   | false=>rfl
   | true=>simp [hst j hj hs',hj]
  rw [hk] at g3;have hsk:sk=stK:=by
   rw [List.getLast?_eq_getElem?] at hlast;rw [g3] at hlast;injection hlast
  subst hsk;have hnx:sk.next=st0.next:=h4 sk (List.mem_of_getElem? g3);rw [bxs_congrA (E:=fun j=>decide (j<m)) (fun j o hj ho ha=>by
   have:D j=true:=hall j hj (by
    cases hfr:freeAt P ops j with
    | false=>rfl
    | true=>exact absurd (hfree j o ho hfr).2.2 ha)
   rw [this];simp [hj]),bxs_all (by omega)] at g2
  obtain ⟨R2,s2,b1,b2,b3,b4,b5⟩:=acc_sound hacc R' s' q 0 g4 (g2.nd hn);have b1':Agree st0.next R' R2:=by rw [<- hnx];exact b1
  have b2':st0.next<=stA.next:=by rw [<- hnx];exact b2
  have g12:Agree st0.next R0 R2:=g1.trans b1' (Nat.le_refl _);have wsr:∀ (j:Nat) (v:LV),ws[j]? = some v->(∀ b∈Z5 v,b<stA.next)/\(D j=true->Wk (V j) (Z0 R2 true v)):=fun j v hj=>by
   have hjm:j<m:=by rw [<- hwl];exact (List.getElem?_eq_some_iff.1 hj).1
   obtain ⟨o,hoj⟩:=hsome j (by omega)
   cases haj:Zy o.op with
   | none =>
    have hjv:vs[j]? = some v:=by rw [<- (w3 j _ (hat j _ hjm hoj)).1 haj];exact hj
    have hu:=vsr j v hjv;refine ⟨fun b hb=>Nat.lt_of_lt_of_le (hu b hb) b2',fun hD=>?_⟩
    rw [g5 j hjm hD];simp only [Vof,hoj,Option.bind_some,haj,List.getD_eq_getElem?_getD,hjv,Option.getD_some];rw [Yi g12 true hu];exact Wk.refl _
   | some tj =>
    have:=b5 j _ v (hat j _ hjm hoj) hj (by simp [haj])
    rw [Nat.zero_add] at this;refine ⟨this.1,fun hD=>?_⟩
    rw [g5 j hjm hD];simp only [Vof,hoj,Option.bind_some,haj];exact this.2
  refine ⟨0,R2,s2,stA,Nat.zero_le _,hall,fun j hj hj2=>?_,g12,b2',?_,b3,g2.trans b4,fun j v hj=>?_,fun j v hjN hD hj=>?_⟩
  ·rw [hD0 j hj hj2];symm;simpa using hj
  ·simpa [stN] using k3
  ·by_cases hjm:j<m
   ·refine (wsr j v ?_).1
    rw [<- hj];simp only [xs];rw [List.getElem?_append_left (by omega)]
   ·simp only [xs] at hj
    rw [List.getElem?_append_right (by omega)] at hj
    have hil:j-ws.length<(ops.drop m).length:=by rw [<- k1];exact (List.getElem?_eq_some_iff.1 hj).1
    obtain ⟨v',sa,sb,q1,q2,q3,q4⟩:=k5 _ _ (List.getElem?_eq_getElem hil);rw [hj] at q1;injection q1 with q1;subst q1
    have:=(gopS_parts q4).2.1;rw [k4 sa (List.mem_of_getElem? q2)] at this;exact this
  ·by_cases hjm:j<m
   ·refine (wsr j v ?_).2 hD
    rw [<- hj];simp only [xs];rw [List.getElem?_append_left (by omega)]
   ·rw [hD0 j (by omega) hjN] at hD;simp at hD
 have step2:∀ (i:Nat) (o:Oper) (D:Nat->Bool) (V:Nat->AV) (t:Hp),i<N->ops[i]? = some o->Closed ops D->D i=false->(∀ p∈prs o,D p=true)->P2 D V t ->
   GopS P ops o (Z8 ops N V (Ze R0 le) D) t (fun r t'=>∃ V':Nat->AV,(∀ j,D j=true->V' j=V j)/\Wk r (V' i)/\P2 (fun j=>j==i||D j) V' t'):=by
  rintro i o D V t hi ho hcl hDi hpre ⟨k,R2,s2,sk,p1,p2,p3,p4,p5,p6,p7,p8,p9,p10⟩;have hrd:∀ j,reach ops ops.length i j=true->D j=true:=fun j hr=>Ys (fun a b c d=>hcl a b c d) _ i j o ho hpre hr
  have hnx:sk.next=stA.next:=k4 sk (List.mem_of_getElem? p6)
  by_cases him:i<m
  ·
   have hfr:freeAt P ops i=true:=by
    cases hfr:freeAt P ops i with
    | true=>rfl
    | false=>have:=p2 i him hfr;rw [hDi] at this;simp at this
   obtain ⟨f1,f2,f3⟩:=hfree i o ho hfr;obtain ⟨v,sa,sb,q1,q2,q3,q4⟩:=h5 i o (hat i o him ho);have hsa:sa.next=st0.next:=h4 sa (List.mem_of_getElem? q2);have g:=gopS_free (st2:=sk) f2 f1 (by rw [hsa,hnx];exact p5) q4
   have hxv:xs[i]? = some v:=by
    simp only [xs];rw [List.getElem?_append_left (by omega),(w3 i o (hat i o him ho)).1 f3]
    exact q1
   have et:(ops.take m).take i=ops.take i:=by rw [List.take_take,Nat.min_eq_left (by omega)]
   rw [et,<- vNt i (by omega)] at g
   have hle:EWS sk.next (Yd (ops.take i) (vN.take i) le):=by
    have:=puts_ews (N:=sk.next) (l:=ops) (ws:=vN) (le:=le) (by omega) (fun t b hb=>Nat.lt_of_lt_of_le (he0 t b hb) (by rw [hnx];exact p5)) (fun j v hj b hb=>Nat.lt_of_lt_of_le (vNr j v hj b hb) (by rw [hnx];exact p5)) i (by omega)
    exact this
   have gs:=gopS_sound hc p7 hle f3 g;refine GopS.mono (GopS.wk gs (envOk D V R2 vN st0.next i o hvN p4 (Nat.le_refl _) vNr (fun j w hjN hDj hj=>?_) hi ho hcl hDi hpre) p8) fun r t0 hp=>?_
   ·obtain ⟨oj,hoj⟩:=hsome j hjN
    by_cases hjm:j<m
    ·have hjv:vs[j]? = some w:=by rw [<- hj];simp only [vN];rw [List.getElem?_append_left (by omega)]
     cases haj:Zy oj.op with
     | none =>
      refine p10 j w hjN hDj ?_
      simp only [xs];rw [List.getElem?_append_left (by omega),(w3 j oj (hat j oj hjm hoj)).1 haj]
      exact hjv
     | some tj =>
      have:=(hany j oj tj hjm hoj haj).2;rw [hjv] at this;injection this with this
      subst this;simp only [Z0];exact Wk.any _ _
    ·have:w=.any:=by
      simp only [vN] at hj;rw [List.getElem?_append_right (by omega),List.getElem?_replicate] at hj
      split at hj <;> simp at hj
      exact hj.symm
     subst this;simp only [Z0];exact Wk.any _ _
   ·obtain ⟨R3,s3,c1,c2,c3,c4,c5,c6⟩:=hp
    rw [hnx] at c1;refine ⟨fun j=>if j=i then Z0 R3 true v else V j,fun j hj=>?_,?_,k,R3,s3,sk,p1,fun j hj hfj=>?_,fun j hj hjN=>?_,p4.trans c1 p5,p5,p6,c6,c5,p9,fun j w hjN hD hj=>?_⟩
    ·have:j≠i:=by intro e;subst e;rw [hDi] at hj;simp at hj
     simp only [if_neg this]
    ·simp only [if_true];exact c3
    ·simp only [p2 j hj hfj,Bool.or_true]
    ·have:(j==i)=false:=by simpa using (by omega:j≠i)
     simp only [this,Bool.false_or];exact p3 j hj hjN
    ·by_cases e:j=i
     ·subst e
      simp only [if_true];rw [hxv] at hj;injection hj with hj
      subst hj;exact Wk.refl _
     ·simp only [if_neg e]
      have hD':D j=true:=by
       have:(j==i)=false:=by simpa using e
       simpa [this] using hD
      rw [Yi c1 true (p9 j w hj)];exact p10 j w hjN hD' hj
  ·
   obtain ⟨f3,hline⟩:=hfl i o ho (by omega)
   have hik:i=m+k:=by
    have h1':¬ i<m+k:=fun hlt=>by
     have:=p3 i (by omega) hi
     rw [hDi] at this;simp at this;omega
    apply Classical.byContradiction;intro hne;have hlt:m+k<i:=by omega
    rcases hline (m+k) hlt with hr | ⟨hr,_⟩
    ·have:=hrd _ (by rw [hN] at *;exact hr)
     rw [p3 (m+k) (by omega) (by omega)] at this
     simp at this
    ·omega
   have hod:(ops.drop m)[k]? = some o:=by rw [List.getElem?_drop,<- hik];exact ho
   obtain ⟨v,sa,sb,q1,q2,q3,q4⟩:=k5 k o hod;rw [p6] at q2;injection q2 with q2
   subst q2;have hxv:xs[i]? = some v:=by
    simp only [xs];rw [List.getElem?_append_right (by omega),hwl,hik,Nat.add_sub_cancel_left]
    exact q1
   have et:Yd ((ops.drop m).take k) (us.take k) (Yd (ops.take m) ws le)=Yd (ops.take i) (xs.take i) le:=by
    have e1:ops.take i=ops.take m++(ops.drop m).take k:=by rw [hik,List.take_add]
    have e2:xs.take i=ws++us.take k:=by
     simp only [xs];rw [hik,List.take_append,hwl,List.take_of_length_le (by omega),Nat.add_sub_cancel_left]
    rw [e1,e2,putsE_app (by omega)]
   rw [et] at q4;have hle:EWS sk.next (Yd (ops.take i) (xs.take i) le):=
    puts_ews (N:=sk.next) (l:=ops) (ws:=xs) (le:=le) (by omega) (fun t b hb=>Nat.lt_of_lt_of_le (he0 t b hb) (by rw [hnx];exact p5)) (fun j v hj b hb=>by rw [hnx];exact p9 j v hj b hb) i (by omega)
   have gs:=gopS_sound hc p7 hle f3 q4;refine GopS.mono (GopS.wk gs (envOk D V R2 xs stA.next i o hxl p4 p5 p9 p10 hi ho hcl hDi hpre) p8) fun r t0 hp=>?_
   obtain ⟨R3,s3,c1,c2,c3,c4,c5,c6⟩:=hp;rw [hnx] at c1;refine ⟨fun j=>if j=i then Z0 R3 true v else V j,fun j hj=>?_,?_,k+1,R3,s3,sb,by omega,fun j hj hfj=>?_,fun j hj hjN=>?_,p4.trans c1 p5,p5,?_,c6,c5,p9,fun j w hjN hD hj=>?_⟩
   ·have:j≠i:=by intro e;subst e;rw [hDi] at hj;simp at hj
    simp only [if_neg this]
   ·simp only [if_true];exact c3
   ·simp only [p2 j hj hfj,Bool.or_true]
   ·by_cases e:j=i
    ·subst e
     simp;omega
    ·have:(j==i)=false:=by simpa using e
     simp only [this,Bool.false_or];rw [p3 j hj hjN,decide_eq_decide];omega
   ·rw [List.take_succ_eq_append_getElem (List.getElem?_eq_some_iff.1 hod).1,stN,List.countP_append]
    have:(ops.drop m)[k]'((List.getElem?_eq_some_iff.1 hod).1)=o:=(List.getElem?_eq_some_iff.1 hod).2;rw [this];rw [<- q3];simp [stN,List.countP_cons]
   ·by_cases e:j=i
    ·subst e
     simp only [if_true];rw [hxv] at hj;injection hj with hj
     subst hj;exact Wk.refl _
    ·simp only [if_neg e]
     have hD':D j=true:=by
      have:(j==i)=false:=by simpa using e
      simpa [this] using hD
     rw [Yi c1 true (p9 j w hj)];exact p10 j w hjN hD' hj
 let HI:(Nat->Bool)->(Nat->AV)->Hp->Prop:=fun D V t=>P1 D V t∨P2 D V t
 refine AW.mixedV N (fun _=>.any []) HI hf (by rw [<- hN] at hok ⊢;exact hok) hokn (.inl ⟨fun _ _ _=>rfl,fun _=>0,R0,s0,st0,Agree.refl _ _,?_,?_,a4,fun j _ hj=>by simp at hj⟩) ?_ ?_ ?_
 ·have:bxs P ops m (fun _=>false) (fun _=>0)=[]:=by
   unfold bxs;rw [List.filterMap_eq_nil_iff];simp
  rw [this];exact HpWk.refl _
 ·rw [Wo (E:=fun _=>false) m (by simp)]
  have:cnt (fun _=>false) m=0:=by unfold cnt;rw [List.filter_eq_nil_iff.2 (by simp)];rfl
  rw [this];exact h3
 ·rintro D E V t hDE (⟨hD0,q,R',s',sk,g1,g2,g3,g4,g5⟩ | ⟨k,R2,s2,sk,p1,p2,p3,p4,p5,p6,p7,p8,p9,p10⟩)
  ·refine .inl ⟨fun j hj hjN=>by rw [<- hDE j hjN];exact hD0 j hj hjN,q,R',s',sk,g1,by rw [<- bxs_congr (fun j hj=>hDE j (by omega))];exact g2,?_,g4,fun j hj hE=>g5 j hj (by rw [hDE j (by omega)];exact hE)⟩
   rw [<- g3]
   congr 1
   exact Wo m fun j hj=>by rw [hDE j (by omega)]
  ·exact .inr ⟨k,R2,s2,sk,p1,fun j hj hfj=>by rw [<- hDE j (by omega)];exact p2 j hj hfj,fun j hj hjN=>by rw [<- hDE j hjN];exact p3 j hj hjN,p4,p5,p6,p7,p8,p9,fun j v hjN hE hj=>p10 j v hjN (by rw [hDE j hjN];exact hE) hj⟩
 ·rintro i o D V t hi ho hcl hDi hpre hH
  rcases hH with hP1 | hP2
  ·by_cases him:i<m
   ·obtain ⟨hD0,q,R',s',sk,g1,g2,g3,g4,g5⟩:=hP1
    cases ha:Zy o.op with
    | none =>
     obtain ⟨hlo,hhi⟩:=lohi (m:=m) ho hcl hDi hpre;obtain ⟨v,sa,sb,q1,q2,q3,q4⟩:=at_any' (by omega) hprs hrun hch him ho hlo hhi
     rw [g3] at q2;injection q2 with q2;subst q2
     have hnx:sk.next=st0.next:=h4 sk (List.mem_of_getElem? g3);have et:(ops.take m).take i=ops.take i:=by rw [List.take_take,Nat.min_eq_left (by omega)]
     rw [et,<- vNt i (by omega)] at q4
     have hle:EWS sk.next (Yd (ops.take i) (vN.take i) le):=by
      rw [hnx];exact puts_ews (N:=st0.next) (l:=ops) (ws:=vN) (le:=le) (by omega) he0 vNr i (by omega)
     have gs:=gopS_sound hc g4 hle ha q4;have hob:Yc P o=none:=by simp [Yc,ha]
     refine GopS.wk (s':=s'++bxs P ops m D q) (GopS.frame (GopS.mono gs fun r t0 hp=>?_)) (envOk D V R' vN st0.next i o hvN g1 (Nat.le_refl _) vNr (fun j w hjN hDj hj=>?_) hi ho hcl hDi hpre) (g2.trans (HpWk.perm List.perm_append_comm))
     ·obtain ⟨R2,s2,p1,p2,p3,p4,p5,p6⟩:=hp
      have hvr:=vsr i v q1;have hv:Z0 R2 true v=Z0 R0 true v:=by rw [Yi p1 true (by rw [hnx];exact hvr),Yi g1 true hvr]
      refine ⟨fun j=>if j=i then Z0 R0 true v else V j,fun j hj=>?_,?_,.inl ⟨fun j hj hjN=>?_,q,R2,s2,sb,g1.trans p1 (by rw [hnx];exact Nat.le_refl _),?_,?_,p6,fun j hj hD=>?_⟩⟩
      ·have:j≠i:=by intro e;subst e;rw [hDi] at hj;simp at hj
       simp only [if_neg this]
      ·simp only [if_true]
       rw [<- hv];exact p3
      ·have:(j==i)=false:=by simpa using (by omega:j≠i)
       simp only [this,Bool.false_or];exact hD0 j hj hjN
      ·rw [bxs_same ho hob]
       exact (HpWk.perm List.perm_append_comm).trans (HpWk.app _ p5)
      ·rw [cnt_put P ops hDi him ho];exact q3
      ·by_cases e:j=i
       ·subst e
        simp only [if_true];simp only [Vof,ho,Option.bind_some,ha];simp [List.getD_eq_getElem?_getD,q1]
       ·simp only [if_neg e]
        refine g5 j hj ?_
        have:(j==i)=false:=by simpa using e
        simpa [this] using hD
     ·by_cases hjm:j<m
      ·rw [g5 j hjm hDj]
       obtain ⟨oj,hoj⟩:=hsome j hjN;have hjv:vs[j]? = some w:=by rw [<- hj];simp only [vN];rw [List.getElem?_append_left (by omega)]
       simp only [Vof,hoj,Option.bind_some]
       cases haj:Zy oj.op with
       | none =>
        simp only [List.getD_eq_getElem?_getD,hjv,Option.getD_some];rw [Yi g1 true (vsr j w hjv)];exact Wk.refl _
       | some tj =>
        have:=(hany j oj tj hjm hoj haj).2;rw [hjv] at this;injection this with this
        subst this;simp only [Z0];exact Wk.any _ _
      ·rw [hD0 j (by omega) hjN] at hDj;simp at hDj
    | some ty =>
     obtain ⟨hg,_⟩:=hany i o ty him ho ha;obtain ⟨z,hz⟩:=acc_zero hacc i o ty (hat i o him ho) ha;have hop:=allocT_some ha;have hob:Yc P o=some (.cells ty (z.cells.toList.map .v) z.cells.size):=by simp [Yc,ha,hz]
     refine GopS.run hg ?_
     rw [hop];simp only [aop];unfold aalloc;rw [hz];intro b hb;refine ⟨fun j=>if j=i then .v (.pointer (some ⟨b,0,none⟩)) else V j,fun j hj=>?_,?_,.inl ⟨fun j hj hjN=>?_,fun j=>if j=i then b else q j,R',s',sk,g1,?_,?_,g4,fun j hj hD=>?_⟩⟩
     ·have:j≠i:=by intro e;subst e;rw [hDi] at hj;simp at hj
      simp only [if_neg this]
     ·simp only [if_true]
      exact Wk.refl _
     ·have:(j==i)=false:=by simpa using (by omega:j≠i)
      simp only [this,Bool.false_or];exact hD0 j hj hjN
     ·refine (HpWk.app [(b,.cells ty (z.cells.toList.map .v) z.cells.size)] g2).trans (HpWk.perm ?_)
      exact (List.Perm.append_right s' (bxs_put him hDi ho hob)).symm
     ·rw [cnt_put P ops hDi him ho,hop]
      simpa [Xy] using g3
     ·by_cases e:j=i
      ·subst e
       simp only [if_true,Vof,ho,Option.bind_some,ha]
      ·have hD':D j=true:=by
        have:(j==i)=false:=by simpa using e
        simpa [this] using hD
       simp only [if_neg e];rw [g5 j hj hD'];simp only [Vof,if_neg e]
   ·refine GopS.kn fun hn=>GopS.mono (step2 i o D V t hi ho hcl hDi hpre (turn D V t hn (fun j hj hfj=>?_) hP1)) fun r t' ⟨V',y1,y2,y3⟩=>⟨V',y1,y2,.inr y3⟩
    rcases (hfl i o ho (by omega)).2 j (by omega) with hr | ⟨_,hr⟩
    ·exact Ys (fun a b c d=>hcl a b c d) _ i j o ho hpre hr
    ·rw [hfj] at hr;simp at hr
  ·exact GopS.mono (step2 i o D V t hi ho hcl hDi hpre hP2) fun r t' ⟨V',y1,y2,y3⟩=>⟨V',y1,y2,.inr y3⟩
 ·rintro V t (⟨hD0,_⟩ | ⟨k,R2,s2,sk,p1,p2,p3,p4,p5,p6,p7,p8,p9,p10⟩)
  ·have:=hD0 m (Nat.le_refl _) hmN
   simp [hmN] at this
  ·have hk:k=N-m:=by
    have h3':decide (N-1<N)=decide (N-1<m+k):=p3 (N-1) (by omega) (by omega)
    rw [decide_eq_decide] at h3';omega
   subst hk;have hsk:sk=stZ:=by
    rw [List.take_of_length_le (by omega)] at p6
    rw [List.getLast?_eq_getElem?,k2,Nat.add_sub_cancel,p6] at hlastB;injection hlastB
   subst hsk;have hnx:sk.next=stA.next:=k4 sk (List.mem_of_getElem? p6);rw [List.drop_of_length_le (by omega)]
   refine OpsS.nil ⟨rfl,?_⟩;have hend:=puts_ews (N:=stA.next) (l:=ops) (ws:=xs) (le:=le) (by omega) (fun t b hb=>Nat.lt_of_lt_of_le (he0 t b hb) p5) p9 N (by omega)
   have hseq:=puts_env (ops:=ops) (m:=N) (N:=stA.next) (by rw [<- hN] at hok ⊢;exact hok) (R:=R2) (V:=V) (ws:=xs) (le:=le) hxl (fun t b hb=>Nat.lt_of_lt_of_le (he0 t b hb) p5) p9 (fun j v hj=>p10 j v (by rw [<- hxl];exact (List.getElem?_eq_some_iff.1 hj).1) (by simpa using (by rw [<- hxl];exact (List.getElem?_eq_some_iff.1 hj).1:j<N)) hj) N (Nat.le_refl _)
   rw [List.take_of_length_le (l:=ops) (by omega),List.take_of_length_le (by omega)] at hend
   rw [List.take_of_length_le (l:=ops) (by omega),List.take_of_length_le (l:=ops) (by omega),List.take_of_length_le (l:=xs) (by omega),instE_agree p4 he0] at hseq
   have hfin:LEnd' P F.m R0 (Yd ops xs le) sk (Z8 ops N V (Ze R0 le) fun j=>decide (j<N)) t:=
    ⟨R2,s2,p4.le (by omega),by omega,SW.wk hseq p8,p7,by rw [hnx];exact hend⟩
   exact hfin.agree a1 (by omega)
theorem lregion_draw{P:Program}{call:Zz}(hc:Yq P call)(hf:P.follows .mixedOrders=true){F:Fm}{ops:List Oper}{le le':LEnv}{st st':St}{R:Inst}{s:Hp}{id:Nat}(h:lregion P call F.n ops true le st=some (le',st'))(hs:SRel P R st s)(he:EWS st.next le)(hm:F.m<=st.next):AW none P F.n (.region id ops.toArray true) (Ze R le) s (LQ P F.m R .norm le' st'):=by
 unfold lregion at h
 split at h <;> try (simp at h;done)
 rename_i hokn;simp only [if_true] at h;generalize lineFrom ops ops.length=m at h
 split at h
 ·exact lregB_sound hc hf hokn h hs he hm
 split at h <;> try (simp at h;done)
 rename_i hok
 split at h <;> try (simp at h;done)
 rename_i vs S hrun
 split at h <;> try (simp at h;done)
 rename_i hch
 split at h <;> try (simp at h;done)
 rename_i stK hlast
 split at h <;> try (simp at h;done)
 rename_i ws stA hlac;obtain ⟨hml,hparts⟩:=X9 hok;obtain ⟨R0,s0,a1,a2,a3,a4⟩:=openFor_sound (l:=ops.take m) hs;generalize openFor (ops.take m) st=st0 at *;have he0:EWS st0.next le:=fun t b hb=>Nat.lt_of_lt_of_le (he t b hb) a2
 refine AWm.wk (e':=Ze R0 le) (s':=s0) ?_ (by rw [instE_agree a1 he];exact EWk.refl _) (HpWk.perm a3)
 have htl:(ops.take m).length=m:=by rw [List.length_take];omega
 obtain ⟨h1,h2,h3,h4,h5⟩:=lrunS_at _ hrun;have hvl:vs.length=m:=by rw [h1,htl]
 obtain ⟨w1,hacc,w3⟩:=laccs_at _ h1 hlac;have hat:∀ i o,i<m->ops[i]? = some o->(ops.take m)[i]? = some o:=fun i o hi ho=>by rw [List.getElem?_take,if_pos hi];exact ho
 have vsr:∀ (i:Nat) (v:LV),vs[i]? = some v->∀ b∈Z5 v,b<st0.next:=fun i v hv=>by
  have hi:i<(ops.take m).length:=by rw [<- h1];exact (List.getElem?_eq_some_iff.1 hv).1
  obtain ⟨w,sa,sb,q1,q2,q3,q4⟩:=h5 i _ (List.getElem?_eq_getElem hi);rw [hv] at q1;injection q1 with q1;subst q1
  have:=(gopS_parts q4).2.1;rw [h4 sa (List.mem_of_getElem? q2)] at this;exact this
 have hany:∀ (i:Nat) (o:Oper) (t:TypeId),i<m->ops[i]? = some o->Zy o.op=some t->o.guard=none/\vs[i]? = some .any:=fun i o t hi ho ha=>by
  have hg:=(w3 i o (hat i o hi ho)).2 t ha;obtain ⟨w,sa,sb,q1,q2,q3,q4⟩:=h5 i o (hat i o hi ho);obtain ⟨rfl,_⟩:=gopS_alloc ha hg q4;exact ⟨hg,q1⟩
 let Vof:(Nat->Nat)->Nat->AV:=fun q j=>match (ops[j]?).bind (fun o=>Zy o.op) with
  | some _=>.v (.pointer (some ⟨q j,0,none⟩))
  | none=>Z0 R0 true (vs.getD j .any)
 let HI:(Nat->Bool)->(Nat->AV)->Hp->Prop:=fun D V t=>∃ q R' s' sk,Agree st0.next R0 R'/\HpWk t (bxs P ops m D q++s')/\S[cnt (fun j=>isSt P ops j&&D j) m]? = some sk/\SRel P R' sk s'/\∀ j,j<m->D j=true->V j=Vof q j
 refine AW.mixedV m (fun _=>.any []) HI hf hok hokn ⟨fun _=>0,R0,s0,st0,Agree.refl _ _,?_,?_,a4,fun j _ hj=>by simp at hj⟩ ?_ ?_ ?_
 ·have:bxs P ops m (fun _=>false) (fun _=>0)=[]:=by
   unfold bxs;rw [List.filterMap_eq_nil_iff];simp
  rw [this];exact HpWk.refl _
 ·rw [Wo (E:=fun _=>false) m (by simp)]
  have:cnt (fun _=>false) m=0:=by unfold cnt;rw [List.filter_eq_nil_iff.2 (by simp)];rfl
  rw [this];exact h3
 ·rintro D E V t hDE ⟨q,R',s',sk,g1,g2,g3,g4,g5⟩
  refine ⟨q,R',s',sk,g1,by rw [<- bxs_congr hDE];exact g2,?_,g4,fun j hj hE=>g5 j hj (by rw [hDE j hj];exact hE)⟩
  rw [<- g3]
  congr 1
  exact Wo m fun j hj=>by rw [hDE j hj]
 ·rintro i o D V t hi ho hcl hDi hpre ⟨q,R',s',sk,g1,g2,g3,g4,g5⟩
  cases ha:Zy o.op with
  | none =>
   obtain ⟨hlo,hhi⟩:=lohi (m:=m) ho hcl hDi hpre;obtain ⟨v,sa,sb,q1,q2,q3,q4⟩:=at_any hok hrun hch hi ho hlo hhi;rw [g3] at q2;injection q2 with q2;subst q2
   have hnx:sk.next=st0.next:=h4 sk (List.mem_of_getElem? g3);have hle:=puts_ews (by rw [hvl,htl]) he0 vsr i (by omega)
   have gs:=gopS_sound hc g4 (by rw [hnx];exact hle) ha q4
   have hob:Yc P o=none:=by simp [Yc,ha]
   refine GopS.wk (s':=s'++bxs P ops m D q) (GopS.frame (GopS.mono gs fun r t0 hp=>?_)) ?_ (g2.trans (HpWk.perm List.perm_append_comm))
   ·obtain ⟨R2,s2,p1,p2,p3,p4,p5,p6⟩:=hp
    have hvr:=vsr i v q1;have hv:Z0 R2 true v=Z0 R0 true v:=by rw [Yi p1 true (by rw [hnx];exact hvr),Yi g1 true hvr]
    refine ⟨fun j=>if j=i then Z0 R0 true v else V j,fun j hj=>?_,?_,q,R2,s2,sb,g1.trans p1 (by rw [hnx];exact Nat.le_refl _),?_,?_,p6,fun j hj hD=>?_⟩
    ·have:j≠i:=by intro e;subst e;rw [hDi] at hj;simp at hj
     simp only [if_neg this]
    ·simp only [if_true]
     rw [<- hv];exact p3
    ·rw [bxs_same ho hob]
     exact (HpWk.perm List.perm_append_comm).trans (HpWk.app _ p5)
    ·rw [cnt_put P ops hDi hi ho];exact q3
    ·by_cases e:j=i
     ·subst e
      simp only [if_true];simp only [Vof,ho,Option.bind_some,ha];simp [List.getD_eq_getElem?_getD,q1]
     ·simp only [if_neg e]
      refine g5 j hj ?_
      have:(j==i)=false:=by simpa using e
      simpa [this] using hD
   ·intro t'
    unfold gEnv
    split
    ·rename_i ht'
     let Vh:Nat->AV:=fun j=>if D j then V j else Z0 R0 true (vs.getD j .any)
     have e1:Z8 ops m V (Ze R0 le) D=Z8 ops m Vh (Ze R0 le) D:=slotsAt_congrV fun j hj=>by simp [Vh,hj]
     rw [instE_agree g1 hle,e1,<- slot_any hok hi ho (fun j hj hr=>Ys (fun a b c d=>hcl a b c d) _ i j o ho hpre hr) hDi t' ht']
     refine puts_env hok hvl he0 vsr (fun j w hj=>?_) i (by omega) t'
     have hjl:j<vs.length:=(List.getElem?_eq_some_iff.1 hj).1;have hjm:j<m:=by omega
     have hoj:ops[j]? = some (ops[j]'(by omega)):=List.getElem?_eq_getElem (by omega)
     simp only [Vh]
     split
     ·rename_i hDj
      rw [g5 j hjm hDj];simp only [Vof,hoj,Option.bind_some]
      cases haj:Zy (ops[j]'(by omega)).op with
      | none =>
       simp only [List.getD_eq_getElem?_getD,hj,Option.getD_some];exact Wk.refl _
      | some tj =>
       have:=(hany j _ tj hjm hoj haj).2;rw [hj] at this;injection this with this
       subst this;simp only [Z0];exact Wk.any _ _
     ·simp only [List.getD_eq_getElem?_getD,hj,Option.getD_some]
      exact Wk.refl _
    ·exact Wk.any _ _
  | some ty =>
   obtain ⟨hg,_⟩:=hany i o ty hi ho ha;obtain ⟨z,hz⟩:=acc_zero hacc i o ty (hat i o hi ho) ha;have hop:=allocT_some ha;have hob:Yc P o=some (.cells ty (z.cells.toList.map .v) z.cells.size):=by simp [Yc,ha,hz]
   refine GopS.run hg ?_
   rw [hop];simp only [aop];unfold aalloc;rw [hz];intro b hb;refine ⟨fun j=>if j=i then .v (.pointer (some ⟨b,0,none⟩)) else V j,fun j hj=>?_,?_,fun j=>if j=i then b else q j,R',s',sk,g1,?_,?_,g4,fun j hj hD=>?_⟩
   ·have:j≠i:=by intro e;subst e;rw [hDi] at hj;simp at hj
    simp only [if_neg this]
   ·simp only [if_true]
    exact Wk.refl _
   ·refine (HpWk.app [(b,.cells ty (z.cells.toList.map .v) z.cells.size)] g2).trans (HpWk.perm ?_)
    exact (List.Perm.append_right s' (bxs_put hi hDi ho hob)).symm
   ·rw [cnt_put P ops hDi hi ho,hop]
    simpa [Xy] using g3
   ·by_cases e:j=i
    ·subst e
     simp only [if_true,Vof,ho,Option.bind_some,ha]
    ·have hD':D j=true:=by
      have:(j==i)=false:=by simpa using e
      simpa [this] using hD
     simp only [if_neg e];rw [g5 j hj hD'];simp only [Vof,if_neg e]
 ·rintro V t ⟨q,R',s',sk,g1,g2,g3,g4,g5⟩
  have hk:cnt (fun j=>isSt P ops j&&decide (j<m)) m=S.length-1:=by
   have:=stN_cnt P ops hml m (Nat.le_refl _);rw [List.take_take,Nat.min_self] at this;rw [<- this,h2];rfl
  rw [hk] at g3;have hsk:sk=stK:=by
   rw [List.getLast?_eq_getElem?] at hlast;rw [g3] at hlast;injection hlast
  subst hsk;have hnx:sk.next=st0.next:=h4 sk (List.mem_of_getElem? g3);refine OpsS.kn fun hn=>?_
  rw [bxs_all hml] at g2;obtain ⟨R2,s2,b1,b2,b3,b4,b5⟩:=acc_sound hacc R' s' q 0 g4 (g2.nd hn);have b1':Agree st0.next R' R2:=by rw [<- hnx];exact b1
  have b2':st0.next<=stA.next:=by rw [<- hnx];exact b2
  have g12:Agree st0.next R0 R2:=g1.trans b1' (Nat.le_refl _);have wsr:∀ (j:Nat) (v:LV),ws[j]? = some v->(∀ b∈Z5 v,b<stA.next)/\Wk (V j) (Z0 R2 true v):=fun j v hj=>by
   have hjm:j<m:=by rw [<- htl,<- w1];exact (List.getElem?_eq_some_iff.1 hj).1
   have hoj:ops[j]? = some (ops[j]'(by omega)):=List.getElem?_eq_getElem (by omega)
   rw [g5 j hjm (by simpa using hjm)]
   simp only [Vof,hoj,Option.bind_some]
   cases haj:Zy (ops[j]'(by omega)).op with
   | none =>
    have hjv:vs[j]? = some v:=by rw [<- (w3 j _ (hat j _ hjm hoj)).1 haj];exact hj
    have hu:=vsr j v hjv;refine ⟨fun b hb=>Nat.lt_of_lt_of_le (hu b hb) b2',?_⟩
    simp only [List.getD_eq_getElem?_getD,hjv,Option.getD_some];rw [Yi g12 true hu];exact Wk.refl _
   | some tj =>
    have:=b5 j _ v (hat j _ hjm hoj) hj (by simp [haj])
    rw [Nat.zero_add] at this;exact this
  have heK:EWS stA.next le:=fun t b hb=>Nat.lt_of_lt_of_le (he0 t b hb) b2'
  have hend:=puts_ews (l:=ops.take m) w1 heK (fun j v hj=>(wsr j v hj).1) m (by omega)
  have hseq:=puts_env hok (by rw [w1,htl]) heK (fun j v hj=>(wsr j v hj).1) (V:=V) (R:=R2) (fun j v hj=>(wsr j v hj).2) m (Nat.le_refl _)
  have e1:(ops.take m).take m=ops.take m:=by rw [List.take_take,Nat.min_self]
  have e2:ws.take m=ws:=List.take_of_length_le (by omega)
  rw [e1,e2] at hend hseq;rw [instE_agree g12 he0] at hseq;exact OpsS.mono (OpsS.wk (lops_sound hc (m:=F.m) _ h b3 hend (by omega)) hseq (g2.trans b4)) fun e1 t1 qq=>⟨rfl,(qq.agree g12 (by omega)).agree a1 (by omega)⟩
theorem lregion_sound{P:Program}{call:Zz}(hc:Yq P call)(hf:P.follows .mixedOrders=true){F:Fm}{ops:Array Oper}{draw:Bool}{le le':LEnv}{st st':St}{R:Inst}{s:Hp}{id:Nat}(h:lregion P call F.n ops.toList draw le st=some (le',st'))(hs:SRel P R st s)(he:EWS st.next le)(hm:F.m<=st.next):AW none P F.n (.region id ops draw) (Ze R le) s (LQ P F.m R .norm le' st'):=by
 have e:ops=ops.toList.toArray:=by simp
 cases draw
 ·unfold lregion at h
  split at h <;> try (simp at h;done)
  rename_i hok;simp only [Bool.false_eq_true,if_false] at h;rw [e];exact AW.region hok (OpsS.mono (lops_sound hc _ h hs he hm) fun e t q=>⟨rfl,q⟩)
 ·rw [e];exact lregion_draw hc hf h hs he hm
theorem LEnd'.refl{P:Program}{m:Nat}{R:Inst}{le:LEnv}{st:St}{s:Hp}(hs:SRel P R st s)(he:EWS st.next le)(hm:m<=st.next):LEnd' P m R le st (Ze R le) s:=
 ⟨R,s,Agree.refl _ _,hm,SW.refl _ _,hs,he⟩
theorem lexec_sound{P:Program}{call:Zz}(hc:Yq P call)(hf:P.follows .mixedOrders=true){F:Fm}{fu:Nat}:∀ (c:Code) {ex:List (Nat × Nat)} {out:Nat} {le le':LEnv} {st st':St} {x:LX} {R:Inst} {s:Hp},
  Y5 P call fu F c ex out le st=some (x,le',st')->SRel P R st s->EWS st.next le->F.m<=st.next->AW none P F.n c (Ze R le) s (LQ P F.m R x le' st'):=by
 intro c
 induction c with
 | skip =>
  intro ex out le le' st st' x R s h hs he hm;simp [Y5] at h;obtain ⟨rfl,rfl,rfl⟩:=h
  exact AW.skip ⟨rfl,.refl hs he hm⟩
 | region id ops draw =>
  intro ex out le le' st st' x R s h hs he hm;simp only [Y5] at h
  split at h <;> simp at h
  rename_i le1 st1 hr;obtain ⟨rfl,rfl,rfl⟩:=h
  exact lregion_sound hc hf hr hs he hm
 | seq a b iha ihb =>
  intro ex out le le' st st' x R s h hs he hm;simp only [Y5] at h
  split at h
  ·rename_i le1 st1 ha
   refine AW.seq (AW.mono (iha ha hs he hm) fun ax e t hq=>?_)
   obtain ⟨rfl,R1,s1,h1,h2,h3,h4,h5⟩:=hq;simp only [axOf,Y3];exact AWm.sw (AW.mono (ihb h h4 h5 h2) fun ax e t hq=>⟨hq.1,hq.2.agree h1 (Nat.le_refl _)⟩) h3
  ·rename_i hne
   refine AW.seq (AW.mono (iha h hs he hm) fun ax e t hq=>?_)
   obtain ⟨rfl,hq⟩:=hq
   cases x with
   | norm=>exact absurd h (hne _ _)
   | exit i=>exact ⟨rfl,hq⟩
   | ret=>exact ⟨rfl,hq⟩
 | cond x a b iha ihb =>
  intro ex out le le' st st' y R s h hs he hm;simp only [Y5] at h;have hev:∀ bb,le.ev x=.bool bb->ev (Ze R le) x=.v (.bool bb):=fun bb hb=>by
   rw [(ev_cases R le x).resolve_left (by rw [hb];simp),hb];simp [Z0]
  split at h <;> try (simp at h;done)
  ·rename_i hb
   exact AW.condT (hev _ hb) (iha h hs he hm)
  ·rename_i hb
   exact AW.condF (hev _ hb) (ihb h hs he hm)
 | block id c ih =>
  intro ex out le le' st st' x R s h hs he hm;simp only [Y5] at h
  split at h
  ·rename_i i le1 st1 hb
   refine AW.block (AW.mono (ih hb hs he hm) fun ax e t hq=>?_)
   obtain ⟨rfl,R1,s1,h1,h2,h3,h4,h5⟩:=hq;simp only [axOf,Xo]
   split at h
   ·rename_i hi
    rw [if_pos hi];simp at h;obtain ⟨rfl,rfl,rfl⟩:=h
    obtain ⟨R2,s2,g1,g2,g3,g4,g5⟩:=tidy_sound (m:=F.m) (mask:=out) (le:=le1) h4;exact ⟨rfl,R2,s2,h1.trans g1 (Nat.le_refl _),g2,h3.trans g3,g4,g5⟩
   ·rename_i hi
    rw [if_neg hi];simp at h;obtain ⟨rfl,rfl,rfl⟩:=h
    exact ⟨rfl,R1,s1,h1,h2,h3,h4,h5⟩
  ·rename_i hne
   refine AW.block (AW.mono (ih h hs he hm) fun ax e t hq=>?_)
   obtain ⟨rfl,hq⟩:=hq
   cases x with
   | norm=>exact ⟨rfl,hq⟩
   | exit i=>exact absurd h (hne _ _ _)
   | ret=>exact ⟨rfl,hq⟩
 | loop c ih =>
  intro ex out le le' st st' x R s h hs he hm;simp only [Y5] at h;generalize hmask:live F.ret c ex 0=mask at h;refine AW.loop (fun n e t=>t.keys.Nodup/\∃ le1 st1 R1 s1,lloop P F.m mask (exitM F.ret ex) (fun e1 st1=>Y5 P call fu F c ex mask e1 st1) n le1 st1=some (x,le',st')/\Agree F.m R R1/\F.m<=st1.next/\SW e (Ze R1 le1) t s1/\SRel P R1 st1 s1/\EWS st1.next le1) fu
   ⟨hs.nd,le,st,R,s,h,Agree.refl _ _,hm,SW.refl _ _,hs,he⟩ ?_
  intro n e t hH;obtain ⟨hnd,le1,st1,R1,s1,hl,h1,h2,h3,h4,h5⟩:=hH
  cases n with
  | zero=>simp [lloop] at hl
  | succ n =>
   unfold lloop at hl;obtain ⟨R2,s2,g1,g2,g3,g4,g5⟩:=tidy_sound (m:=F.m) (mask:=mask) (le:=le1) h4;refine AWm.sw (AWm.kn ?_) (h3.trans g3)
   split at hl
   ·rename_i le2 st2 hb
    refine AW.mono (ih hb g4 g5 g2) fun ax e t hq hnd=>?_
    obtain ⟨rfl,R3,s3,q1,q2,q3,q4,q5⟩:=hq;simp only [axOf,Y3];exact ⟨n,t,Nat.lt_succ_self _,fun p hp=>hp,hnd,hnd,le2,st2,R3,s3,hl,(h1.trans g1 (Nat.le_refl _)).trans q1 (Nat.le_refl _),q2,q3,q4,q5⟩
   ·rename_i x2 le2 st2 hne hb
    simp only [Option.some.injEq,Prod.mk.injEq] at hl;obtain ⟨rfl,rfl,rfl⟩:=hl;refine AW.mono (ih hb g4 g5 g2) fun ax e t hq hnd=>?_
    obtain ⟨rfl,R3,s3,q1,q2,q3,q4,q5⟩:=hq;obtain ⟨R4,s4,k1,k2,k3,k4,k5⟩:=tidy_sound (m:=F.m) (mask:=exitM F.ret ex x2) (le:=le2) q4;have hq':LQ P F.m R x2 _ _ (axOf x2) e t:=⟨rfl,R4,s4,((h1.trans g1 (Nat.le_refl _)).trans q1 (Nat.le_refl _)).trans k1 (Nat.le_refl _),k2,q3.trans k3,k4,k5⟩
    cases x2 with
    | norm=>exact absurd rfl (hne)
    | exit i=>exact hq'
    | ret=>exact hq'
   ·simp at hl
 | exit id =>
  intro ex out le le' st st' x R s h hs he hm;simp [Y5] at h;obtain ⟨rfl,rfl,rfl⟩:=h
  exact AW.exit ⟨rfl,.refl hs he hm⟩
 | ret =>
  intro ex out le le' st st' x R s h hs he hm;simp [Y5] at h;obtain ⟨rfl,rfl,rfl⟩:=h
  exact AW.ret ⟨rfl,.refl hs he hm⟩
 | rangeFunc f ps a b iha ihb=>intro ex out le le' st st' x R s h;simp [Y5] at h
 | scope b ih=>intro ex out le le' st st' x R s h;simp [Y5] at h
 | label l=>intro ex out le le' st st' x R s h;simp [Y5] at h
 | goto l=>intro ex out le le' st st' x R s h;simp [Y5] at h
 | refuse w=>intro ex out le le' st st' x R s h;simp [Y5] at h
theorem AWm.post{P:Program}{ro:Option Nat}{n:Nat}{c:Code}{e:Env}{s:Hp}{Q:AX->Env->Hp->Prop}(h:AW ro P n c e s (fun x e t=>∃ e' t',SW e e' t t'/\Q x e' t')):AW ro P n c e s Q:=by
 unfold AW at h ⊢;intro ds I w a h1 h2 h3;refine wpIn_mono (h ds I w a h1 h2 h3) fun x a' w' ⟨ax,e1,t,J,ds',q1,⟨e',t',hw,hq⟩,q3,q4,q5,q6⟩=>?_
 obtain ⟨J',g1,g2,g3⟩:=hw J w' (fun k=>a'.tmps.getD k undef) q3.rv q4
 exact ⟨ax,e',t',J',ds',q1,hq,⟨q3.size,q3.defers,g1⟩,g2,q5.trans g3,q6.after g3⟩
theorem lpeek_sound{P:Program}{R:Inst}{st:St}{s:Hp}{t:TypeId}{p v:LV}{K:AV->Prop}(hs:SRel P R st s)(h:lpeek P t p st=some v)(hk:K (Z0 R true v)):Xc P t (Z0 R true p) s K:=by
 unfold lpeek at h
 split at h <;> try (simp at h;done)
 rename_i b o
 split at h <;> try (simp at h;done)
 rename_i e cs hl;obtain ⟨us,tt,hce,hm⟩:=hs.box hl;have plains:∀ {cs:List LV} {us:List AV} {t:Hp},CellsE P R cs us t->cs.all LV.plain=true->us=Z1 R true cs:=by
  intro cs us t h
  induction h with
  | nil=>intro _;simp [Z1]
  | cons h k ih =>
   intro ho;simp only [List.all_cons,Bool.and_eq_true] at ho;simp only [Z1];rw [ih ho.2]
   cases h with
   | ownNil=>simp [LV.plain] at ho
   | own=>simp [LV.plain] at ho
   | omap=>simp [LV.plain] at ho
   | other c hc=>rfl
 unfold Xc;simp only [Z0,Yy hs.nd hm]
 split at h <;> try (simp at h;done)
 ·rename_i n hag
  split at h <;> simp at h
  rename_i hc;subst h;simp only [hag];obtain ⟨t1,t2,e1,e2,e3⟩:=hce.split o;obtain ⟨t3,t4,e4,e5,e6⟩:=e2.split n;refine ⟨by rw [<- hce.length];exact hc.1,?_⟩
  rw [plains e4 hc.2];simpa [Z0] using hk
 ·rename_i n hag
  split at h <;> try (simp at h;done)
  rename_i c hcs
  split at h <;> simp at h
  rename_i hpl;subst h;simp only [hag];obtain ⟨u,t1,ta,tb,h1,h2,h3,h4⟩:=hce.get o _ hcs;rw [h1]
  cases h2 with
  | ownNil=>simp [LV.plain] at hpl
  | own=>simp [LV.plain] at hpl
  | omap=>simp [LV.plain] at hpl
  | other c hc=>exact hk
theorem lpeek_refs{P:Program}{R:Inst}{st:St}{s:Hp}{t:TypeId}{p v:LV}(hs:SRel P R st s)(h:lpeek P t p st=some v):∀ b∈Z5 v,b<st.next:=by
 unfold lpeek at h
 split at h <;> try (simp at h;done)
 split at h <;> try (simp at h;done)
 rename_i e cs hl;have hw:=hs.look_ws hl;simp only [Y1] at hw
 split at h <;> try (simp at h;done)
 ·split at h <;> simp at h
  subst h;intro d hd;simp only [Z5] at hd;exact hw d (refsL_sub (fun x hx=>List.mem_of_mem_drop (List.mem_of_mem_take hx)) d hd)
 ·split at h <;> try (simp at h;done)
  rename_i c hcs
  split at h <;> simp at h
  subst h;exact fun d hd=>hw d (Y7 (List.mem_of_getElem? hcs) d hd)
theorem lres_sound{P:Program}{R:Inst}{st:St}{s:Hp}{le:LEnv}(hs:SRel P R st s):∀ (rs:List ResultVar) {vs:List LV} {K:List AV->Prop},lres P rs le st=some vs->K (Z1 R true vs)->ares P rs (Ze R le) s K
 | [],vs,K,h,hk=>by
  simp [lres] at h;subst h;simp only [ares];simpa [Z1] using hk
 | .tmp t::rs,vs,K,h,hk=>by
  simp only [lres] at h
  split at h <;> simp at h
  rename_i ws hws;subst h;simp only [ares];exact lres_sound hs rs hws (by simpa [Z1,Ze] using hk)
 | .cell a t::rs,vs,K,h,hk=>by
  simp only [lres] at h
  split at h <;> simp at h
  rename_i v ws hv hws;subst h;simp only [ares];have:Ze R le a=Z0 R true (le.get a):=rfl;rw [this];exact lpeek_sound hs hv (lres_sound hs rs hws (by simpa [Z1] using hk))
theorem lres_refs{P:Program}{R:Inst}{st:St}{s:Hp}{le:LEnv}(hs:SRel P R st s)(he:EWS st.next le):∀ (rs:List ResultVar) {vs:List LV},lres P rs le st=some vs->∀ b∈Z9 vs,b<st.next
 | [],vs,h=>by simp [lres] at h;subst h;simp [Z9]
 | .tmp t::rs,vs,h=>by
  simp only [lres] at h
  split at h <;> simp at h
  rename_i ws hws;subst h;intro b hb;simp only [Z9,List.mem_append] at hb;exact hb.elim (he t b) (lres_refs hs he rs hws b)
 | .cell a t::rs,vs,h=>by
  simp only [lres] at h
  split at h <;> simp at h
  rename_i v ws hv hws;subst h;intro b hb;simp only [Z9,List.mem_append] at hb;exact hb.elim (lpeek_refs hs hv b) (lres_refs hs he rs hws b)
theorem oneTup_inst(R:Inst)(vs:List LV):Z0 R true (oneTup vs)=Y8 (Z1 R true vs):=by
 match vs with
 | []=>simp [oneTup,Y8,Z0,Z1]
 | [v]=>simp [oneTup,Y8,Z0,Z1]
 | v::w::vs=>simp [oneTup,Y8,Z0,Z1]
theorem oneTup_refs(vs:List LV):∀ b∈Z5 (oneTup vs),b∈Z9 vs:=by
 match vs with
 | []=>simp [oneTup,Z5]
 | [v]=>simp [oneTup,Z5,Z9]
 | v::w::vs=>simp [oneTup,Z5]
def ExtSound(P:Program)(C:Cfg):Prop:=∀ f F,C.ext f=some F->∀ as st v st',F as st=some (v,st')->LMeets P f as st v st'
theorem lcore_sound{P:Program}{C:Cfg}(hx:ExtSound P C)(hf:P.follows .mixedOrders=true){call:Zz}(hc:Yq P call){fu:Nat}{f:FuncId}{as:List LV}{st st1:St}{v:LV}(h:lcore P C call fu f as st=some (v,st1)):LMeets P f as st v st1:=by
 unfold lcore at h
 split at h
 ·rename_i F hF
  exact hx f F hF as st v st1 h
 ·split at h <;> try (simp at h;done)
  rename_i fn hfn
  split at h <;> try (simp at h;done)
  rename_i c hbody
  split at h <;> try (simp at h;done)
  rename_i hcond;obtain ⟨hlen,hname⟩:=hcond;intro R s hs hr;have he0:EWS st.next (as++List.replicate (fn.ntmps-as.length) .any):=by
   intro t b hb;unfold LEnv.get at hb;rw [List.getD_eq_getElem?_getD,List.getElem?_append] at hb
   split at hb
   ·rename_i ht
    rw [List.getElem?_eq_getElem ht] at hb;exact hr b (Y7 (List.getElem_mem ht) b hb)
   ·rw [List.getElem?_replicate] at hb
    split at hb <;> simp [Z5] at hb
  have hent:EWk (entry (Z1 R true as)) (Ze R (as++List.replicate (fn.ntmps-as.length) .any)):=by
   intro t;unfold entry Ze LEnv.get;rw [List.getD_eq_getElem?_getD,List.getD_eq_getElem?_getD,instL_get,List.getElem?_append]
   split
   ·rename_i ht
    rw [List.getElem?_eq_getElem ht];exact Wk.refl _
   ·rw [List.getElem?_replicate]
    split <;> (simp only [Option.getD_some,Option.getD_none,Z0];exact Wk.any _ _)
  refine Meets.body hfn hbody hname (by rw [Zj];exact hlen) ?_
  refine AWm.wk ?_ hent (HpWk.refl _);have fin:∀ x e1 st2 vs,(x=.norm∨x=.ret)->Y5 P call fu ⟨fn.ntmps,st.next,resMask fn.results.toList⟩ c [] (resMask fn.results.toList) (as++List.replicate (fn.ntmps-as.length) .any) st=some (x,e1,st2) ->
    lres P fn.results.toList e1 st2=some vs->AW none P fn.ntmps c (Ze R (as++List.replicate (fn.ntmps-as.length) .any)) s (APost P fn.results.toList fun r t=>LPost P R st (oneTup vs) st2 r t):=by
   intro x e1 st2 vs hx' hex hres;refine AWm.post (AW.mono (lexec_sound hc hf c hex hs he0 (Nat.le_refl _)) fun ax e t hq=>?_)
   obtain ⟨rfl,R',s',h1,h2,h3,h4,h5⟩:=hq;refine ⟨_,s',h3,?_⟩;have hares:ares P fn.results.toList (Ze R' e1) s' fun us=>LPost P R st (oneTup vs) st2 (Y8 us) s':=
    lres_sound h4 _ hres ⟨R',s',h1,h2,by rw [oneTup_inst];exact Wk.refl _,fun b hb=>lres_refs h4 h5 _ hres b (oneTup_refs vs b hb),HpWk.refl _,h4⟩
   rcases hx' with rfl | rfl <;> exact hares
  split at h <;> try (simp at h;done)
  rename_i x e1 st2 hne hex
  split at h <;> simp at h
  rename_i vs hvs;obtain ⟨rfl,rfl⟩:=h
  exact fin x e1 _ vs (by cases x with | norm=>exact .inl rfl | ret=>exact .inr rfl | exit i=>exact absurd rfl (hne i)) hex hvs
theorem odel_comm{b c:Nat}(h:b≠c):∀ l:List (Nat × LObj),Yo (Yo l b) c=Yo (Yo l c) b
 | []=>rfl
 | (k,o)::l=>by
  by_cases hb:k=b
  ·by_cases hc:k=c
   ·omega
   ·simp only [Yo,if_pos hb,if_neg hc]
  ·by_cases hc:k=c
   ·simp only [Yo,if_neg hb,if_pos hc]
   ·simp only [Yo,if_neg hb,if_neg hc,odel_comm h l]
theorem olook_del_ne{b c:Nat}(h:c≠b)(l:List (Nat × LObj)):Yh (Yo l b) c=Yh l c:=olook_del h l
theorem restC_sound{P:Program}{R:Inst}{b0 e0:Nat}{cs0:List LV}(τ:TypeId){c:LV}{st:St}{u:AV}{t t2:Hp}(hc:CellE P R c u t)(h2:Ents P R (Yo st.objs b0) t2)(h0:st.look b0=some (.box e0 cs0)):
  ∃ t' t2',CellE P R (restC P τ c st).1 u t'/\Ents P R (Yo (restC P τ c st).2.objs b0) t2'/\(t++t2).Perm (t'++t2')/\(restC P τ c st).2.next=st.next/\(restC P τ c st).2.look b0=some (.box e0 cs0) /\
   (restC P τ c st).2.objs.Sublist st.objs/\∀ r∈Z5 (restC P τ c st).1,r∈Z5 c:=by
 have same:∃ t' t2',CellE P R c u t'/\Ents P R (Yo st.objs b0) t2'/\(t++t2).Perm (t'++t2')/\st.next=st.next/\st.look b0=some (.box e0 cs0)/\st.objs.Sublist st.objs/\∀ r∈Z5 c,r∈Z5 c:=
  ⟨t,t2,hc,h2,.refl _,rfl,h0,.refl _,fun _ h=>h⟩
 unfold restC
 split
 ·
  split
  ·rename_i el hel
   split
   ·rename_i ag k hag
    cases hc with
    | other _ _=>exact ⟨[],t2,by simp only [Z0];exact .ownNil el k,h2,.refl _,rfl,h0,.refl _,by simp [Z5]⟩
   ·exact same
  ·exact same
 ·
  rename_i k b n
  split
  ·rename_i e k' xs hl
   split
   ·rename_i hcond
    obtain ⟨rfl,rfl,hf⟩:=hcond;have hne:b≠b0:=fun e=>by subst e;rw [h0] at hl;simp at hl
    have hl':Yh (Yo st.objs b0) b=some (.row e k' xs):=by rw [olook_del_ne hne];exact hl
    obtain ⟨tr,t3,ho,h3,hp,_⟩:=h2.focus hl';have hcomm:Yo (Yo st.objs b0) b=Yo (st.del b).objs b0:=(odel_comm hne st.objs).symm;rw [hcomm] at h3;have hlook:(st.del b).look b0=some (.box e0 cs0):=by show Yh (Yo st.objs b) b0=_;rw [olook_del_ne (Ne.symm hne)];exact h0
    cases hc with
    | other _ _ =>
     cases ho with
     | rowNil _ _ hz =>
      refine ⟨[],t3,?_,h3,by simpa using hp,rfl,hlook,Xj _ _,by simp [Z5]⟩
      simp only [Z0,Y0,hz,List.length_nil,beq_self_eq_true,Bool.and_self,if_true];exact .ownNil e k'
     | row _ _ _ hz ok =>
      refine ⟨[(R.ρ b,AObj.cells e ((Z1 R (rlv P e) xs).flatMap cellsOf) (R.κ b*k'))],t3,?_,h3,by simpa using hp,rfl,hlook,Xj _ _,by simp [Z5]⟩
      simp only [Z0,Y0,hz,Bool.false_and,Bool.false_eq_true,if_false,Nat.zero_mul,Option.getD_none,Nat.sub_zero];have:Z1 R (rlv P e) xs=Z1 R false xs:=by simp [rlv,hf]
      rw [this];exact .own e k' xs (R.ρ b) (R.κ b) (.inl hf) ok
   ·exact same
  ·exact same
 ·
  rename_i b
  split
  ·rename_i k es hl
   have hne:b≠b0:=fun e=>by subst e;rw [h0] at hl;simp at hl
   have hl':Yh (Yo st.objs b0) b=some (.map k es):=by rw [olook_del_ne hne];exact hl
   obtain ⟨tr,t3,ho,h3,hp,_⟩:=h2.focus hl';have hcomm:Yo (Yo st.objs b0) b=Yo (st.del b).objs b0:=(odel_comm hne st.objs).symm;rw [hcomm] at h3;have hlook:(st.del b).look b0=some (.box e0 cs0):=by show Yh (Yo st.objs b) b0=_;rw [olook_del_ne (Ne.symm hne)];exact h0
   cases hc with
   | other _ _ =>
    cases ho with
    | map _ _ es' hm =>
     refine ⟨[(R.ρ b,.imap k es')],t3,?_,h3,by simpa using hp,rfl,hlook,Xj _ _,by simp [Z5]⟩
     simp only [Z0];refine .omap k _ _ (R.ρ b) es' ?_
     have hz:(es.map (·.1)).zip (es.map (·.2))=es:=by
      clear hm hl hl' hp
      induction es with
      | nil=>rfl
      | cons p es ih=>simp [ih]
     rw [hz];exact hm
  ·exact same
 ·exact same
theorem restL_sound{P:Program}{R:Inst}{b0 e0:Nat}{cs0:List LV}:∀ (tys:List TypeId) {cs:List LV} {st:St} {us:List AV} {t t2:Hp},CellsE P R cs us t->Ents P R (Yo st.objs b0) t2->st.look b0=some (.box e0 cs0) ->
  ∃ t' t2',CellsE P R (restL P tys cs st).1 us t'/\Ents P R (Yo (restL P tys cs st).2.objs b0) t2'/\(t++t2).Perm (t'++t2')/\(restL P tys cs st).2.next=st.next/\(restL P tys cs st).2.look b0=some (.box e0 cs0) /\
   (restL P tys cs st).2.objs.Sublist st.objs/\∀ r∈Z9 (restL P tys cs st).1,r∈Z9 cs
 | [],cs,st,us,t,t2,hc,h2,h0=>by
  have:restL P [] cs st=(cs,st):=by simp [restL]
  rw [this];exact ⟨t,t2,hc,h2,.refl _,rfl,h0,.refl _,fun _ h=>h⟩
 | τ::tys,[],st,us,t,t2,hc,h2,h0=>by
  have:restL P (τ::tys) [] st=([],st):=by unfold restL;simp
  rw [this];exact ⟨t,t2,hc,h2,.refl _,rfl,h0,.refl _,fun _ h=>h⟩
 | τ::tys,c::cs,st,us,t,t2,hc,h2,h0=>by
  cases hc with
  | cons h k =>
   rename_i u ta us ts;obtain ⟨ta',t2a,g1,g2,g3,g4,g5,g6,g7⟩:=restC_sound τ h h2 h0;obtain ⟨ts',t2b,q1,q2,q3,q4,q5,q6,q7⟩:=restL_sound tys k g2 g5;simp only [restL];refine ⟨ta'++ts',t2b,.cons g1 q1,q2,?_,q4.trans g4,q5,q6.trans g6,fun r hr=>?_⟩
   ·have e1:(ta++ts++t2).Perm (ts++(ta++t2)):=by
     rw [List.append_assoc];exact List.perm_append_comm_assoc ta ts t2
    have e2:(ts++(ta++t2)).Perm (ts++(ta'++t2a)):=List.Perm.append_left ts g3;have e3:(ts++(ta'++t2a)).Perm (ta'++(ts++t2a)):=List.perm_append_comm_assoc ts ta' t2a;have e4:(ta'++(ts++t2a)).Perm (ta'++(ts'++t2b)):=List.Perm.append_left ta' q3;rw [List.append_assoc ta'];exact e1.trans (e2.trans (e3.trans e4))
   ·simp only [Z9,List.mem_append] at hr ⊢
    exact hr.imp (g7 r) (q7 r)
theorem Wu{P:Program}{R:Inst}:∀ (l:List Nat) {st:St} {s:Hp},SRel P R st s->∃ s',SRel P R (X6 P l st) s'/\s.Perm s'/\(X6 P l st).next=st.next
 | [],st,s,hs=>⟨s,hs,.refl _,rfl⟩
 | b::l,st,s,hs=>by
  unfold X6
  split
  ·rename_i e cs hl
   split
   ·exact Wu l hs
   obtain ⟨t1,t2,ho,h2,hp⟩:=hs.focus hl
   cases ho with
   | box _ _ us t hce =>
    obtain ⟨t',t2',g1,g2,g3,g4,g5,g6,g7⟩:=restL_sound (cellTys P e) hce h2 hl;obtain ⟨s1,q1,q2⟩:=Ents.put (.box e _ us t' g1) g2 g5;have hperm:s.Perm s1:=by
     refine hp.trans ?_
     refine List.Perm.trans ?_ q2.symm;exact List.Perm.cons _ g3
    have hs1:SRel P R ((restL P (cellTys P e) cs st).2.set b (.box e (restL P (cellTys P e) cs st).1)) s1:=by
     refine ⟨q1,(Wi hperm).nodup_iff.1 hs.nd,?_,fun p hp'=>?_,fun p hp' r hr=>?_⟩
     ·show ((oset _ b _).map (·.1)).Nodup
      rw [oset_keys];exact hs.ok.sublist (g6.map _)
     ·rcases oset_mem hp' with rfl | hp'
      ·show b<_;simp only [St.set];rw [g4];exact hs.look_lt hl
      ·show p.1<_;simp only [St.set];rw [g4];exact hs.lt p (g6.subset hp')
     ·rcases oset_mem hp' with rfl | hp'
      ·simp only [Y1] at hr
       show r<_;simp only [St.set];rw [g4]
       exact hs.look_ws hl r (by simp only [Y1];exact g7 r hr)
      ·show r<_;simp only [St.set];rw [g4];exact hs.ws p (g6.subset hp') r hr
    obtain ⟨s2,w1,w2,w3⟩:=Wu l hs1;exact ⟨s2,w1,hperm.trans w2,by rw [w3];exact g4⟩
  ·exact Wu l hs
theorem nrmC_wk(P:Program)(R:Inst)(t:TypeId)(v:LV):Wk (Z0 R true v) (Z0 R true (nrmC P t v)):=by
 unfold nrmC
 split
 ·split
  ·split
   ·simp only [Z0,Z1];exact Wk.empty _ _ _
   ·exact Wk.refl _
  ·exact Wk.refl _
 ·exact Wk.refl _
theorem nrmL_wk(P:Program)(R:Inst):∀ (ts:List TypeId) (vs:List LV),WkL (Z1 R true vs) (Z1 R true (nrmL P ts vs))
 | [],vs=>by
  have:nrmL P [] vs=vs:=by simp [nrmL]
  rw [this];exact WkL.refl _
 | t::ts,[]=>by simp only [nrmL];exact WkL.refl _
 | t::ts,v::vs=>by simp only [nrmL,Z1];exact .cons (nrmC_wk P R t v) (nrmL_wk P R ts vs)
theorem nrm1_wk(P:Program)(R:Inst)(t:TypeId)(v:LV):Wk (Z0 R true v) (Z0 R true (nrm1 P t v)):=by
 unfold nrm1
 split
 ·simp only [Z0];exact Wk.agg (nrmL_wk P R _ _)
 ·exact nrmC_wk P R t _
theorem nrmA_wk(P:Program)(R:Inst):∀ (ts:List TypeId) (vs:List LV),WkL (Z1 R true vs) (Z1 R true (nrmA P ts vs))
 | [],vs=>by
  have:nrmA P [] vs=vs:=by simp [nrmA]
  rw [this];exact WkL.refl _
 | t::ts,[]=>by simp only [nrmA];exact WkL.refl _
 | t::ts,v::vs=>by simp only [nrmA,Z1];exact .cons (nrm1_wk P R t v) (nrmA_wk P R ts vs)
theorem nrmV_wk(P:Program)(R:Inst)(tys:List TypeId)(v:LV):Wk (Z0 R true v) (Z0 R true (nrmV P tys v)):=by
 unfold nrmV
 split
 ·exact nrm1_wk P R _ v
 ·split
  ·simp only [Z0];exact Wk.tup (nrmA_wk P R _ _)
  ·exact Wk.refl _
theorem SW.one{R:Inst}{v:LV}{le:LEnv}{s s':Hp}(h:SW (Ze R [v]) (Ze R le) s s'):SW (fun _:Unit=>Z0 R true v) (fun _=>Z0 R true (LEnv.get le 0)) s s':=by
 intro I w x hx hs;obtain ⟨J,h1,h2,h3⟩:=h I w (fun t=>if t=0 then x () else undef) (fun t=>by
  cases t with
  | zero=>simpa [Ze,LEnv.get] using hx ()
  | succ t =>
   have:LEnv.get [v] (t+1)=.any:=by simp [LEnv.get]
   simp only [Ze,this,Z0];exact .any _ _) hs
 exact ⟨J,fun _=>by simpa [Ze] using h1 0,h2,h3⟩
theorem lexit_sound{P:Program}{R R1:Inst}{st st1:St}{v:LV}{keep:Bool}{tys:List TypeId}{r:AV}{t s1:Hp}(ha:Agree st.next R R1)(hw:Wk r (Z0 R1 true v))(hv:∀ b∈Z5 v,b<st1.next)(ht:HpWk t s1)(hs:SRel P R1 st1 s1):
  ∃ r' t',SW (fun _:Unit=>r) (fun _=>r') t t'/\LPost P R st (lexit P keep tys st.next v st1).1 (lexit P keep tys st.next v st1).2 r' t':=by
 have hfrz:∃ s2,SRel P R1 (if keep then ([v],st1) else frz (slIds v) [v] st1).2 s2/\SW (fun _:Unit=>Z0 R1 true v) (fun _=>Z0 R1 true (LEnv.get (if keep then ([v],st1) else frz (slIds v) [v] st1).1 0)) s1 s2:=by
  cases keep
  ·simp only [Bool.false_eq_true,if_false]
   have he:EWS st1.next [v]:=fun t b hb=>by
    cases t with
    | zero=>exact hv b (by simpa [LEnv.get] using hb)
    | succ t=>simp [LEnv.get,Z5] at hb
   obtain ⟨s2,g1,g2,g3,g4,g5⟩:=frz_sound (slIds v) hs he;exact ⟨s2,g1,g5.one⟩
  ·simp only [if_true]
   exact ⟨s1,hs,by simp only [LEnv.get,List.getD_cons_zero];exact SW.refl _ _⟩
 unfold lexit;simp only;generalize (if keep then ([v],st1) else frz (slIds v) [v] st1)=f at hfrz
 obtain ⟨s2,g1,g2⟩:=hfrz;obtain ⟨s3,q1,q2,q3⟩:=Wu (W3 P st.next f.1 f.2) g1;generalize X6 P (W3 P st.next f.1 f.2) f.2=st2 at *;have hnrm:Wk (Z0 R1 true (LEnv.get f.1 0)) (Z0 R1 true (if keep then LEnv.get f.1 0 else nrmV P tys (LEnv.get f.1 0))):=by
  cases keep
  ·exact nrmV_wk P R1 tys _
  ·exact Wk.refl _
 generalize (if keep then LEnv.get f.1 0 else nrmV P tys (LEnv.get f.1 0))=v2 at *
 obtain ⟨k1,k2,k3⟩:=canonIds_ok P st.next [v2] st2;generalize W3 P st.next [v2] st2=ids at *;obtain ⟨s4,s5,rest,w1,w2,w3,_⟩:=recanon_sound q1 k1;refine ⟨Z0 (R1.re ids) true (ren (fun b=>ixOf ids b 0) v2),s5,?_,R1.re ids,s5,ha.trans (re_agree R1 k3) (Nat.le_refl _),k2,Wk.refl _,fun b hb=>ren_refs (fun b i hb=>ixOf_lt hb) v2 b hb,HpWk.refl _,w1⟩
 refine (SW.wk (fun _=>hw) ht).trans (g2.trans (SW.wk (fun _=>?_) ((HpWk.perm q2).trans (HpWk.of_parts w3 w2))))
 exact hnrm.trans (ren_wk (re_ok R1 ids) v2)
theorem lrun_sound{P:Program}{C:Cfg}(hx:ExtSound P C)(hf:P.follows .mixedOrders=true){call:Zz}(hc:Yq P call){n:Nat}{f:FuncId}{as:List LV}{st st1:St}{v:LV}(h:Zd P C call n f as st=some (v,st1)):LMeets P f as st v st1:=by
 unfold Zd at h
 split at h <;> simp at h
 rename_i v0 st0 hcore;intro R s hs hr;refine Meets.sw (Meets.mono (lcore_sound hx hf hc hcore R s hs hr) fun r t hp=>?_)
 obtain ⟨R1,s1,h1,h2,h3,h4,h5,h6⟩:=hp;obtain ⟨r',t',g1,g2⟩:=lexit_sound (keep:=C.keep f) (tys:=resTys P f) h1 h3 h4 h5 h6;rw [h] at g2;exact ⟨r',t',g1,g2⟩
theorem Meets.hpwk{P:Program}{f:FuncId}{as bs:List AV}{s s':Hp}{K:AV->Hp->Prop}(h:Meets P f bs s' K)(hw:WkL as bs)(hs:HpWk s s'):Meets P f as s K:=by
 refine Meets.wkargs ?_ hw;unfold Meets at h ⊢;intro I w vs h1 h2;exact (h I w vs (Rel.wk h1 hs) h2).mono fun v w' ⟨r,t,J,q1,q2,q3,q4⟩=>⟨r,t,J,q1,q2,q3,Ext.wk q4 hs⟩
theorem odels_sub:∀ (ks:List Nat) (l:List (Nat × LObj)),(odels l ks).Sublist l
 | [],l=>.refl _
 | b::ks,l=>(odels_sub ks (Yo l b)).trans (Xj l b)
theorem odel_not{b:Nat}:∀ {l:List (Nat × LObj)},(l.map (·.1)).Nodup->b∉(Yo l b).map (·.1)
 | [],_=>by simp [Yo]
 | (k,o)::l,h=>by
  simp only [List.map_cons,List.nodup_cons] at h;unfold Yo
  by_cases hk:k=b
  ·rw [if_pos hk];subst hk;exact h.1
  ·rw [if_neg hk]
   simp only [List.map_cons,List.mem_cons,not_or];exact ⟨fun e=>hk e.symm,odel_not h.2⟩
theorem odels_not:∀ {ks:List Nat} {l:List (Nat × LObj)},(l.map (·.1)).Nodup->∀ b∈ks,b∉(odels l ks).map (·.1)
 | c::ks,l,h,b,hb=>by
  simp only [odels];have hn:((Yo l c).map (·.1)).Nodup:=h.sublist ((Xj l c).map _)
  rcases List.mem_cons.1 hb with rfl | hb
  ·exact fun hm=>odel_not h (((odels_sub ks _).map _).subset hm)
  ·exact odels_not hn b hb
theorem gath_lt(P:Program)(st:St){N:Nat}(hlt:∀ p∈st.objs,p.1<N):∀ (n:Nat) (w acc:List Nat),(∀ b∈acc,b<N)->∀ b∈gath P st n w acc,b<N
 | 0,w,acc,h=>by simpa [gath] using h
 | n+1,[],acc,h=>by simpa [gath] using h
 | n+1,c::w,acc,h=>by
  unfold gath
  split
  ·exact gath_lt P st hlt n w acc h
  ·split
   ·exact gath_lt P st hlt n w acc h
   ·rename_i o ho
    refine gath_lt P st hlt n _ _ fun b hb=>?_
    rcases List.mem_append.1 hb with hb | hb
    ·exact h b hb
    ·simp at hb;subst hb;exact hlt (b,o) (olook_mem ho)
def Inst.back(R R1:Inst)(next k:Nat):Inst:=
 ⟨fun b=>if b<next then R.ρ b else R1.ρ (k+(b-next)),fun b=>if b<next then R.κ b else R1.κ (k+(b-next)),fun b=>if b<next then R.z b else R1.z (k+(b-next))⟩
theorem back_agree(R R1:Inst)(next k:Nat):Agree next R (R.back R1 next k):=fun b hb=>by simp only [Same,Inst.back,hb,if_true,and_self]
theorem Ents.append{P:Program}{R:Inst}{a b:List (Nat × LObj)}{s t:Hp}(h:Ents P R a s)(k:Ents P R b t):Ents P R (a++b) (s++t):=by
 induction h with
 | nil=>exact k
 | cons h _ ih=>simp only [List.cons_append,List.append_assoc];exact .cons h ih
theorem lcallAt_sound{P:Program}{f:FuncId}{run:List LV->St->Option (LV × St)}(hrun:∀ as st v st1,run as st=some (v,st1)->LMeets P f as st v st1){as:List LV}{st st':St}{v:LV}{ks:List Nat}(hk:ks.Nodup)(hlt:∀ b∈ks,b<st.next)(h:lcallAt P run as ks st=some (v,st')):LMeets P f as st v st':=by
 unfold lcallAt at h
 split at h <;> simp at h
 rename_i v1 st1 hr;intro R s hs hrefs;obtain ⟨s0,s1,rest,g1,g2,g3,g4⟩:=recanon_sound hs hk;have hn0:(recanon P ks st).next=ks.length:=rfl;refine Meets.kn (Meets.use s0 rest g3.symm ?_);refine Meets.hpwk ?_ (renL_wk (re_ok R ks) as) g2.wk;refine Meets.mono (hrun _ _ _ _ hr (R.re ks) s1 g1 fun b hb=>Wl (fun b i hb=>ixOf_lt hb) as b hb) fun r t hp hnd=>?_
 obtain ⟨R1,s2,h1,h2,h3,h4,h5,h6⟩:=hp;rw [hn0] at h1 h2;obtain ⟨rfl,rfl⟩:=h
 have hback:∀ j i,backOf ks st.next st1.next j=some i->(j<ks.length/\ks[j]? = some i)∨(ks.length<=j/\j<st1.next/\i=st.next+(j-ks.length)):=by
  intro j i hj;unfold backOf at hj
  split at hj
  ·rename_i hjk;exact .inl ⟨hjk,hj⟩
  ·split at hj <;> simp at hj
   rename_i h1 h2;exact .inr ⟨by omega,h2,hj.symm⟩
 have hren:RenOk (backOf ks st.next st1.next) R1 (R.back R1 st.next ks.length):=by
  intro j i hj
  rcases hback j i hj with ⟨hjk,hi⟩ | ⟨hjk,hjt,rfl⟩
  ·have hil:i<st.next:=hlt i (List.mem_of_getElem? hi)
   have e1:=h1 j hjk;have e2:=re_at R hi;simp only [Inst.back,hil,if_true];exact ⟨(e1.1.trans e2.1).symm,(e1.2.1.trans e2.2.1).symm,(e1.2.2.trans e2.2.2).symm⟩
  ·have:¬ (st.next+(j-ks.length)<st.next):=by omega
   simp only [Inst.back,this,if_false];have e:ks.length+(st.next+(j-ks.length)-st.next)=j:=by omega
   rw [e];exact ⟨rfl,rfl,rfl⟩
 have htop:∀ j i,backOf ks st.next st1.next j=some i->i<st.next+(st1.next-ks.length):=by
  intro j i hj
  rcases hback j i hj with ⟨hjk,hi⟩ | ⟨hjk,hjt,rfl⟩
  ·have:=hlt i (List.mem_of_getElem? hi);omega
  ·omega
 have hsome:∀ b∈List.range st1.next,(backOf ks st.next st1.next b).isSome=true:=by
  intro b hb;simp at hb;unfold backOf
  split
  ·rename_i hbk;rw [List.getElem?_eq_getElem hbk];rfl
  ·first | rw [if_pos hb] | skip
   rfl
 have hinj:∀ b b' i,backOf ks st.next st1.next b=some i->backOf ks st.next st1.next b'=some i->b=b':=by
  intro b b' i hb hb'
  rcases hback b i hb with ⟨e1,e2⟩ | ⟨e1,e2,e3⟩ <;> rcases hback b' i hb' with ⟨q1,q2⟩ | ⟨q1,q2,q3⟩
  ·exact (List.getElem?_inj e1 hk).1 (by rw [e2,q2])
  ·have:=hlt i (List.mem_of_getElem? e2);omega
  ·have:=hlt i (List.mem_of_getElem? q2);omega
  ·omega
 obtain ⟨a0,a1,arest,w1,w2,w3,_⟩:=reobjs_ents hren st1 (List.range st1.next) st1.objs s2 List.nodup_range (fun b _=>rfl) hsome h6.ents
 have hag:=back_agree R R1 st.next ks.length;have hrest:Ents P (R.back R1 st.next ks.length) (odels st.objs ks) rest:=g4.same fun p hp=>⟨hag _ (hs.lt p ((odels_sub _ _).subset hp)),fun r hr=>hag _ (hs.ws p ((odels_sub _ _).subset hp) r hr)⟩
 have hwk:HpWk t a1:=h5.trans (HpWk.of_parts w3 w2);have hnd1:(a1++rest).keys.Nodup:=by
  rw [hpk_append] at hnd ⊢;obtain ⟨n1,n2,n3⟩:=List.nodup_append.1 hnd;exact List.nodup_append.2 ⟨hwk.nd n1,n2,fun x hx y hy=>n3 x (hwk.keys x hx) y hy⟩
 refine ⟨R.back R1 st.next ks.length,a1++rest,hag,Nat.le_add_right _ _,h3.trans (ren_wk hren v1),fun b hb=>ren_refs htop v1 b hb,⟨fun p hp=>?_,fun _=>hnd1⟩,w1.append hrest,hnd1,?_,fun p hp=>?_,fun p hp x hx=>?_⟩
 ·rcases List.mem_append.1 hp with hp | hp
  ·obtain ⟨o,q1,q2⟩:=hwk.mem p hp
   exact ⟨o,List.mem_append_left _ q1,q2⟩
  ·exact ⟨p.2,List.mem_append_right _ hp,.refl _⟩
 ·simp only [lback,List.map_append]
  refine List.nodup_append.2 ⟨reobjs_nodup P st1 _ hinj _ List.nodup_range,hs.ok.sublist ((odels_sub _ _).map _),fun x hx y hy e=>?_⟩
  subst e;obtain ⟨p,hp,rfl⟩:=List.mem_map.1 hx;obtain ⟨b,_,o,_,h5',_⟩:=Wc P st1 _ _ p hp
  rcases hback b p.1 h5' with ⟨e1,e2⟩ | ⟨e1,e2,e3⟩
  ·exact odels_not hs.ok p.1 (List.mem_of_getElem? e2) hy
  ·obtain ⟨q,hq,e⟩:=List.mem_map.1 hy
   have:=hs.lt q ((odels_sub _ _).subset hq);omega
 ·simp only [lback] at hp ⊢
  rcases List.mem_append.1 hp with hp | hp
  ·obtain ⟨b,_,o,_,h5',_⟩:=Wc P st1 _ _ p hp
   exact htop b p.1 h5'
  ·have:=hs.lt p ((odels_sub _ _).subset hp)
   omega
 ·simp only [lback] at hp ⊢
  rcases List.mem_append.1 hp with hp | hp
  ·obtain ⟨b,_,o,_,_,h6'⟩:=Wc P st1 _ _ p hp
   rw [h6'] at hx;exact renO_refs P htop o x hx
  ·have:=hs.ws p ((odels_sub _ _).subset hp) x hx
   omega
theorem lcallV_sound{P:Program}{f:FuncId}{run:List LV->St->Option (LV × St)}(hrun:∀ as st v st1,run as st=some (v,st1)->LMeets P f as st v st1){as:List LV}{st st':St}{v:LV}(h:lcallV P run as st=some (v,st')):LMeets P f as st v st':=by
 unfold lcallV at h;intro R s hs hr;obtain ⟨s',g1,g2,g3⟩:=Wu (X5 P as st) hs;generalize X6 P (X5 P as st) st=stR at *;obtain ⟨k1,_⟩:=gath_ok P stR gfuel (Z9 as) [] List.nodup_nil;have k2:=gath_lt P stR g1.lt gfuel (Z9 as) [] (by simp)
 have:=lcallAt_sound hrun k1 k2 h R s' g1 (by rw [g3];exact hr)
 refine Meets.hpwk (Meets.mono this fun r t hp=>?_) (WkL.refl _) (HpWk.perm g2)
 obtain ⟨R',s2,q1,q2,q3⟩:=hp;exact ⟨R',s2,by rw [<- g3];exact q1,by rw [<- g3];exact q2,q3⟩
theorem lcall_sound{P:Program}{C:Cfg}(hx:ExtSound P C)(hf:P.follows .mixedOrders=true):∀ n,Yq P (Z3 P C n)
 | 0=>fun f as st v st' h=>by simp [Z3] at h
 | n+1=>fun f as st v st' h=>lcallV_sound (fun as st v st1 hr=>lrun_sound hx hf (lcall_sound hx hf n) hr) h
def heapI(w:World):Imm:=fun b=>w.heap[b]?
theorem heapI_cell{w:World}{a:Addr}{x:Value}(h:w.cell? a=some x):a.spot=none/\(heapI w).cell a=some x:=by
 unfold World.cell? at h;unfold Imm.cell heapI
 cases hs:a.spot with
 | none =>
  refine ⟨rfl,?_⟩;rw [hs] at h
  split at h
  ·rename_i c _ _ hc
   simp only [hc,Option.isSome_none,Bool.false_eq_true,if_false] at h ⊢;exact h
  ·simp at h
 | some s =>
  rw [hs] at h
  split at h <;> simp at h
theorem rel_heap(w:World)(g:Gnd (heapI w)):Rel (heapI w) [] w:=⟨fun b o h=>h,fun b o h=>by simp at h,fun b h=>by simp [Hp.keys] at h,by simp [Hp.keys],g⟩
def RdC(R:Inst)(w:World)(cs:List Value)(us:List LV):Prop:=cs.length=us.length/\∀ (l:Bool) (j:Nat) (u:LV),us[j]? = some u->RV (heapI w) (cs.getD j undef) (Z0 R l u)
def Rd{H:Type}(enc:TypeId × Value->H)(P:Program)(R:Inst)(w:World)(t:TypeId)(G:LV->Prop):Prop:=
 ∀ base sp hd fuel cs x,DataW.trod enc P w base sp hd fuel t cs=some x->(∀ n∈x.1.weights P t,n<=reachBytes)->∃ v,G v/\RdC R w cs (Z4 v)
theorem RdC.one{R:Inst}{w:World}{x:Value}{v:LV}(hv:Z4 v=[v])(h:∀ l,RV (heapI w) x (Z0 R l v)):RdC R w [x] (Z4 v):=by
 rw [hv];refine ⟨rfl,fun l j u hj=>?_⟩
 cases j with
 | zero =>
  have hj:v=u:=by simpa using hj
  subst hj;exact h l
 | succ j=>simp at hj
section
variable {H : Type} {enc : TypeId × Value → H} {P : Program} {R : Inst} {w : World} {t : TypeId}
theorem Rd.int{k:IntKind}(ht:P.underlying t=some (.int k)):Rd enc P R w t (fun v=>∃ n,v=.int k n/\(Lit.int k n).wf=true):=by
 intro base sp hd fuel cs x h hz;obtain ⟨n,rfl,_,hw⟩:=DataW.trod_int ht h;exact ⟨_,⟨n,rfl,hw⟩,RdC.one rfl fun l=>by cases l <;> (simp only [Z0];exact .v _)⟩
theorem Rd.bool(ht:P.underlying t=some .bool):Rd enc P R w t (fun v=>∃ b,v=.bool b):=by
 intro base sp hd fuel cs x h hz;obtain ⟨b,rfl,_⟩:=DataW.trod_bool ht h;exact ⟨_,⟨b,rfl⟩,RdC.one rfl fun l=>by cases l <;> (simp only [Z0];exact .v _)⟩
theorem Rd.str(ht:P.underlying t=some .string):Rd enc P R w t (fun v=>∃ s,v=.str s/\s.length<=reachBytes):=by
 intro base sp hd fuel cs x h hz;obtain ⟨s,rfl,rfl,hs⟩:=DataW.trod_string ht h;refine ⟨_,⟨s.data.toList,rfl,hz _ (by simp [DataW.weights])⟩,RdC.one rfl fun l=>?_⟩
 cases l <;> (simp only [Z0];exact .v _)
theorem cells?_get{base:Nat}{a:Addr}{n:Nat}{cs:List Value}(h:w.cells? base a n=some cs):cs.length=n/\∀ i,i<n->w.cell? (a.add i)=some (cs.getD i undef):=by
 unfold World.cells? at h
 split at h
 ·refine ⟨by simpa using mapM_some_length h,fun i hi=>?_⟩
  have:=mapM_some_get h i i (by simp [hi])
  rw [this];have hl:cs.length=n:=by simpa using mapM_some_length h
  rw [List.getD_eq_getElem?_getD,List.getElem?_eq_getElem (by omega)];rfl
 ·simp at h
theorem add_add(a:Addr)(hs:a.spot=none)(n:Nat):a.add n=⟨a.block,a.off+n,none⟩:=by
 unfold Addr.add
 split
 ·rename_i h;subst h
  cases a;simp at hs;simp [hs]
 ·rfl
theorem add_spot{a:Addr}{n m:Nat}(h:a.spot=none):(a.add n).add m=a.add (n+m):=by
 rw [add_add a h,add_add a h,add_add _ rfl];simp [Nat.add_assoc]
theorem list_choose{α β:Type}{f:Nat->β->Prop}:∀ (n:Nat),(∀ i,i<n->∃ b,f i b)->∃ l:List β,l.length=n/\∀ i b,l[i]? = some b->f i b
 | 0,_=>⟨[],rfl,by simp⟩
 | n+1,h=>by
  obtain ⟨l,h1,h2⟩:=list_choose (α:=α) n (fun i hi=>h i (by omega))
  obtain ⟨b,hb⟩:=h n (by omega)
  refine ⟨l++[b],by simp [h1],fun i c hi=>?_⟩
  rw [List.getElem?_append] at hi
  split at hi
  ·exact h2 i c hi
  ·rename_i hn
   have:i=n:=by
    rcases Nat.lt_or_ge (i-l.length) 1 with h3 | h3
    ·omega
    ·rw [List.getElem?_eq_none (by simpa using h3)] at hi;simp at hi
   subst this;rw [h1,Nat.sub_self] at hi;have:b=c:=by simpa using hi
   subst this;exact hb
theorem weightsAll_mem{e:TypeId}:∀ {l:List (DataW H)} {d:DataW H},d∈l->∀ n∈d.weights P e,n∈DataW.weightsAll P e l
 | d0::l,d,hd,n,hn=>by
  simp only [DataW.weightsAll,List.mem_append]
  rcases List.mem_cons.1 hd with rfl | hd
  ·exact .inl hn
  ·exact .inr (weightsAll_mem hd n hn)
theorem Rd.slice{e:TypeId}{k:Nat}{G:LV->Prop}(ht:P.underlying t=some (.slice e))(hk:P.cellsOf e=k)(h0:0<k)(hb1:0<P.bytesOf e)(he:Rd enc P R w e G)(hc:∀ v,G v->(Z4 v).length=k):
  Rd enc P R w t (fun v=>∃ xs,v=.isl k xs/\(∀ x∈xs,G x)/\xs.length<=reachBytes):=by
 intro base sp hd fuel cs x h hz
 rcases DataW.trod_slice ht h with ⟨rfl,_⟩ | ⟨a,len,cap,elems,rest,n,_,rfl,hx0,hb,hl,hm,hlen,hel,_,_⟩
 ·refine ⟨_,⟨[],rfl,by simp,by simp⟩,RdC.one rfl fun l=>?_⟩
  cases l <;> (simp only [Z0,Z1];exact .sl none 0 0 k [] (fun _ _=>undef) rfl (Nat.le_refl _) (by decide) (by simp) (by simp) (by simp) (by simp))
 ·have hx:∀ i,i<len->∃ v:LV,G v/\∃ cs,RdC R w cs (Z4 v)/\cs.length=k/\∀ j,j<k->w.cell? ((a.add (i*k)).add j)=some (cs.getD j undef):=by
   intro i hi;have:=hel i hi;rw [hk] at this
   cases hq:w.cells? base (a.add (i*k)) k with
   | none=>rw [hq] at this;rw [List.getElem?_eq_getElem (by omega)] at this;simp at this
   | some cs =>
    rw [hq,List.getElem?_eq_getElem (by omega)] at this
    obtain ⟨v,g1,g2⟩:=he base sp hd n cs _ this (fun m hm=>hz m (by
     rw [hx0];simp only [DataW.weights,ht,List.mem_cons,List.mem_append];exact .inr (.inl (weightsAll_mem (List.mem_map.2 ⟨elems[i],List.getElem_mem _,rfl⟩) m hm))))
    obtain ⟨q1,q2⟩:=cells?_get hq;exact ⟨v,g1,cs,g2,q1,q2⟩
  obtain ⟨xs,g1,g2⟩:=list_choose (α:=Nat) len hx;have hreach:len<=reachBytes:=by
   have:=hz ((elems.length+rest.length)*P.bytesOf e) (by
    rw [hx0];simp only [DataW.weights,ht,List.mem_cons,List.length_map];exact .inl trivial)
   have h2:elems.length+rest.length<=(elems.length+rest.length)*P.bytesOf e:=Nat.le_mul_of_pos_right _ hb1;omega
  refine ⟨.isl k xs,⟨xs,rfl,fun x hx=>?_,by omega⟩,RdC.one rfl fun l=>?_⟩
  ·obtain ⟨i,hi⟩:=List.mem_iff_getElem?.1 hx
   exact (g2 i x hi).1
  ·have hspot:xs≠[]->a.spot=none:=by
    intro hne
    cases xs with
    | nil=>exact absurd rfl hne
    | cons x xs =>
     obtain ⟨_,cs,_,_,q⟩:=g2 0 x rfl;have:=(heapI_cell (q 0 h0)).1;unfold Addr.add at this;simpa using this
   have key:∀ i x,xs[i]? = some x->∀ j,j<k->(heapI w).cell ⟨a.block,a.off+(i*k+j),none⟩=some ((w.cell? ((a.add (i*k)).add j)).getD undef):=by
    intro i x hi j hj;have hs:a.spot=none:=hspot (by intro h;rw [h] at hi;simp at hi)
    obtain ⟨_,cs,_,_,q⟩:=g2 i x hi;have:=(heapI_cell (q j hj)).2;rw [q j hj];rw [add_spot hs,add_add a hs] at this;rw [this];rfl
   have hinst:Z0 R l (.isl k xs)=.sl k (xs.map (Z0 R false)):=by cases l <;> simp only [Z0,Zu]
   rw [hinst];have hcells:∀ (i:Nat) (x:LV),xs[i]? = some x->(cellsOf (Z0 R false x))=(Z4 x).map (Z0 R false):=by
    intro i x hi;rw [Zw,Zu]
   refine .sl (some a) len cap k _ (fun i j=>(w.cell? ((a.add (i*k)).add j)).getD undef) (by simp [g1]) hl ?_ ?_ ?_ ?_ ?_
   ·unfold reachBytes at hreach
    unfold big;omega
   ·intro i u hu
    rw [List.getElem?_map] at hu;obtain ⟨x,hx,rfl⟩:=Option.map_eq_some_iff.1 hu;rw [hcells i x hx,List.length_map];exact hc x (g2 i x hx).1
   ·intro hne
    exact ⟨a,rfl,hspot (by intro h;rw [h] at hne;simp at hne)⟩
   ·intro i u j v ad hu hj had
    injection had with had;subst had
    rw [List.getElem?_map] at hu;obtain ⟨x,hx,rfl⟩:=Option.map_eq_some_iff.1 hu;rw [hcells i x hx] at hj;have hlt:j<k:=by
     have:=hc x (g2 i x hx).1
     rcases Nat.lt_or_ge j (Z4 x).length with h | h
     ·omega
     ·rw [List.getElem?_eq_none (by simpa using h)] at hj;simp at hj
    exact key i x hx j hlt
   ·intro i u j v hu hj
    rw [List.getElem?_map] at hu;obtain ⟨x,hx,rfl⟩:=Option.map_eq_some_iff.1 hu;rw [hcells i x hx,List.getElem?_map] at hj;obtain ⟨y,hy,rfl⟩:=Option.map_eq_some_iff.1 hj;obtain ⟨_,cs,⟨_,q1⟩,q2,q3⟩:=g2 i x hx;have hlt:j<k:=by
     have:=hc x (g2 i x hx).1
     rcases Nat.lt_or_ge j (Z4 x).length with h | h
     ·omega
     ·rw [List.getElem?_eq_none (by simpa using h)] at hy;simp at hy
    rw [q3 j hlt];exact q1 false j y hy
theorem Rd.struct1{fs:Array Field}{Gs:List (LV->Prop)}(ht:P.underlying t=some (.struct fs))(hc:P.cellsOf t=fs.size)(hlen:Gs.length=fs.size)(hG:∀ (i:Nat) (f:Field) (G:LV->Prop),fs[i]? = some f->Gs[i]? = some G->f.offset=i/\P.cellsOf f.type=1/\Rd enc P R w f.type G/\∀ v,G v->Z4 v=[v]):
  Rd enc P R w t (fun v=>∃ vs,v=.agg vs/\vs.length=fs.size/\∀ (i:Nat) (u:LV) (G:LV->Prop),vs[i]? = some u->Gs[i]? = some G->G u):=by
 intro base sp hd fuel cs x h hz;obtain ⟨xs,n,_,rfl,hl,hxl,hel⟩:=DataW.trod_struct ht h;have hx:∀ i,i<fs.size->∃ v:LV,(∀ G,Gs[i]? = some G->G v/\Z4 v=[v])/\∀ l,RV (heapI w) (cs.getD i undef) (Z0 R l v):=by
  intro i hi;have hf:fs[i]? = some fs[i]:=Array.getElem?_eq_getElem hi;have hg:Gs[i]? = some (Gs[i]'(by omega)):=List.getElem?_eq_getElem (by omega)
  obtain ⟨g1,g2,g3,g4⟩:=hG i _ _ hf hg;have:=hel i _ hf;rw [g1,g2,List.getElem?_eq_getElem (by omega)] at this
  have hone:(cs.drop i).take 1=[cs.getD i undef]:=by
   have hlt:i<cs.length:=by omega
   rw [List.drop_eq_getElem_cons hlt,List.getD_eq_getElem?_getD,List.getElem?_eq_getElem hlt];rfl
  rw [hone] at this;obtain ⟨v,q1,q2⟩:=g3 base sp hd n _ _ this (fun m hm=>hz m (by
   simp only [DataW.weights,ht];exact DataW.weights_mem_each (j:=i) (by rw [List.getElem?_map];simp [hi]) (by rw [List.getElem?_map,List.getElem?_eq_getElem (by omega:i<xs.length)];rfl) m hm))
  refine ⟨v,fun G hG'=>?_,fun l=>?_⟩
  ·rw [hg] at hG'
   injection hG' with hG'
   subst hG';exact ⟨q1,g4 v q1⟩
  ·have:=q2.2 l 0 v (by rw [g4 v q1];rfl)
   simpa using this
 obtain ⟨vs,g1,g2⟩:=list_choose (α:=Nat) fs.size hx;refine ⟨.agg vs,⟨vs,rfl,g1,fun i u G hu hG'=>((g2 i u hu).1 G hG').1⟩,?_,?_⟩
 ·show cs.length=vs.length
  omega
 ·intro l j u hu
  exact (g2 j u hu).2 l
end
end Go.Mac
namespace Go.Mac
open Go Go.Eng Go.RowKit
theorem calls_of_lcall{P:Program}{C:Cfg}(hx:ExtSound P C)(hf:P.follows .mixedOrders=true){n:Nat}{f:FuncId}{as:List LV}{R:Inst}{W:World}{vs:Array Value}(hgnd:Gnd (heapI W))(h:Z3 P C n f as ⟨0,[]⟩=some (.bool true,⟨0,[]⟩))(hr:Z9 as=[])(hv:RVs (heapI W) vs (Z1 R true as))(hc:(callFunc f vs).run P W=.ok (.enter f vs) W):
  Calls P f vs W fun e W'=>e=.returned (.bool true)/\Below W.heap.size W W':=by
 have hm0:=lcall_sound hx hf n f as _ _ _ h R [] (SRel.empty P R) (by rw [hr];simp)
 unfold Meets at hm0;have hm:=hm0 (heapI W) W vs (rel_heap W hgnd) hv
 rcases hm with ⟨_,h2⟩ | ⟨v,w',h1,_⟩
 ·refine h2.mono fun e w' ⟨v,he,r,t,J,hp,hrel,hrv,hext⟩=>?_
  obtain ⟨R',s',_,_,hw,_⟩:=hp;have:=hw J v hrv;simp only [Z0] at this;have hv2:=this.of_v;subst hv2;exact ⟨he,⟨hext.os,hext.tape,hext.output,hext.size,fun b hb=>hext.frame b hb (by simp [Hp.keys])⟩⟩
 ·rw [hc] at h1
  simp at h1
end Go.Mac
namespace Go.Mac
open Go Go.Eng Go.RowKit Go.ChangeShapes Go.WideShapes
theorem trodAll_below{H:Type}{enc:TypeId × Value->H}{P:Program}(hl:laidOutB P=true){W W':World}(hb:Below W.heap.size W W'){sp:Nat->Bool}:
  ∀ {ts:List TypeId} {vs:List Value} {ds:List (DataW H)} {ps:List MemPlace},(∀ t∈ts,P.readableRec t=true/\t<P.types.size)->DataW.TrodAll enc P W 0 (fun _=>true) true ts vs ds ps ->
   (∀ x∈ps,x.block<W.heap.size)->(∀ x∈ps,sp x.block=true)->DataW.TrodAll enc P W' 0 sp true ts vs ds ps
 | [],vs,ds,ps,_,h,_,_=>by
  obtain ⟨rfl,rfl,rfl⟩:=trodAll_nil h;exact trodAll_mk0
 | t::ts,vs,ds,ps,hr,h,hlt,hs=>by
  obtain ⟨v,vs',d,ds',p,q,rfl,rfl,rfl,h1,h2⟩:=trodAll_cons h;have h3:=WideElems.Trod_stays hl (hr t (by simp)).1 (hr t (by simp)).2 h1 (fun x hx=>hb.same (hlt x (by simp [hx]))) (sp':=sp) (fun x hx=>hs x (by simp [hx]))
  exact ⟨p,q,h3,trodAll_below hl hb (fun t ht=>hr t (by simp [ht])) h2 (fun x hx=>hlt x (by simp [hx])) (fun x hx=>hs x (by simp [hx])),rfl⟩
theorem post_of_below{H:Type}{enc:TypeId × Value->H}{P:Program}{f:Func}{s:ChangeSpec}{apart fresh handsOn again:Bool}{W W':World}{args:Array Value}{v:Value}{ds gs:List (DataW H)}{before:List MemPlace}(hW:DataW.Whole enc P f.params.toList s.vars apart W args.toList ds gs before)(hv:s.vars=[])(hl:laidOutB P=true)(hr:∀ t∈f.params.toList,P.readableRec t=true/\t<P.types.size)(hb:Below W.heap.size W W')(hres:∀ (b:Nat) (sp:Nat->Bool) (hd:Bool),DataW.TrodAll enc P W' b sp hd f.resultTypes.toList (v.resultList f.resultTypes.size) (s.fn H (ds++gs)).results [])(hargs:(s.fn H (ds++gs)).args=ds)(hvars:(s.fn H (ds++gs)).vars=[])(hok:∀ (j:Nat) (t:TypeId) (r:Value),f.resultTypes[j]? = some t->(v.resultList f.resultTypes.size)[j]? = some r->Value.okWide P W' .any 0 t r):
  s.post enc P f apart fresh handsOn again W args v W':=by
 have hlt:=hW.lt;have hW':=hW;obtain ⟨p,q,hA,hV,rfl,hz,hn⟩:=hW;rw [hv] at hV;obtain ⟨rfl,rfl⟩:=trodVars_none hV;have ha:∀ sp:Nat->Bool,(∀ x∈p++[],sp x.block=true)->DataW.TrodAll enc P W' 0 sp true f.params.toList args.toList (s.fn H (ds++[])).args p:=fun sp hs=>by
  rw [hargs];exact trodAll_below hl hb hr hA (fun x hx=>by simpa using hlt x (by simp [hx])) (fun x hx=>hs x (by simp [hx]))
 have hvs:∀ sp:Nat->Bool,DataW.TrodVars enc P W' sp s.vars (s.fn H (ds++[])).vars []:=fun sp=>by
  rw [hvars,hv];simp [DataW.TrodVars]
 have hold:∀ x∈p++[],(fun b=>decide (b<W.heap.size)) x.block=true:=fun x hx=>by simpa using hlt x hx
 refine ⟨ds,[],p++[],[],p,[],hW',hres _ _ _,ha _ hold,hvs _,hb.frame _,fun _=>?_⟩
 refine ⟨hok,_,_,([]++p)++[],⟨[]++p,[],trodAll_append (ha _ (fun _ _=>rfl)) (hres _ _ _),hvs _,rfl,?_,?_⟩,?_⟩
 ·intro b off hp
  have hp':MemPlace.cell b off∈p++[]:=by simpa using hp
  have:b<W.heap.size:=by simpa [MemPlace.block] using hlt _ hp'
  rw [hb.frozen (p:=⟨b,off,none⟩) this];exact hz b off hp'
 ·intro h
  have:=hn h;simpa using this
 ·intro x hx _
  simpa using hx
def Params{H:Type}(enc:TypeId × Value->H)(P:Program)(R:Inst)(w:World):List TypeId->List (LV->Prop)->Prop
 | [],[]=>True
 | t::ts,G::Gs=>((∀ base v,Value.okWide P w .any base t v->v.cells = #[v])/\Rd enc P R w t G/\∀ u,G u->Z4 u=[u])/\Params enc P R w ts Gs
 | _,_=>False
def Fits:List (LV->Prop)->List LV->Prop
 | [],[]=>True
 | G::Gs,a::as=>G a/\Fits Gs as
 | _,_=>False
theorem ok1_slice{P:Program}{w:World}{r:Reach}{t e:TypeId}(ht:P.underlying t=some (.slice e)):∀ base v,Value.okWide P w r base t v->v.cells = #[v]:=by
 intro base v h;obtain ⟨a,l,c,rfl⟩:=okWide_slice ht h
 rfl
theorem ok1_int{P:Program}{w:World}{r:Reach}{t:TypeId}{k:IntKind}(ht:P.underlying t=some (.int k)):∀ base v,Value.okWide P w r base t v->v.cells = #[v]:=by
 intro base v h;obtain ⟨n,rfl⟩:=okWide_int ht h
 rfl
theorem read_args{H:Type}{enc:TypeId × Value->H}{P:Program}{R:Inst}{W:World}{sp:Nat->Bool}{hd:Bool}:
  ∀ {ts:List TypeId} {Gs:List (LV->Prop)} {vs:List Value} {ds:List (DataW H)} {ps:List MemPlace},Params enc P R W ts Gs->DataW.TrodAll enc P W 0 sp hd ts vs ds ps ->
   (∀ (j:Nat) t v,ts[j]? = some t->vs[j]? = some v->∃ base,Value.okWide P W .any base t v)->(∀ n∈DataW.weightsEach P ts ds,n<=reachBytes) ->
   ∃ as,Fits Gs as/\vs.length=as.length/\∀ (l:Bool) (j:Nat) (u:LV),as[j]? = some u->RV (heapI W) (vs.getD j undef) (Z0 R l u)
 | [],[],vs,ds,ps,_,h,_,_=>by
  obtain ⟨rfl,rfl,rfl⟩:=trodAll_nil h;exact ⟨[],trivial,rfl,by simp⟩
 | [],_::_,_,_,_,hp,_,_,_=>hp.elim
 | _::_,[],_,_,_,hp,_,_,_=>hp.elim
 | t::ts,G::Gs,vs,ds,ps,hp,h,hok,hz=>by
  obtain ⟨v,vs',d,ds',p,q,rfl,rfl,rfl,h1,h2⟩:=trodAll_cons h;obtain ⟨⟨hc,hr,hone⟩,hp'⟩:=hp;obtain ⟨base,hb⟩:=hok 0 t v rfl rfl;obtain ⟨fuel,hf⟩:=h1;rw [hc base v hb] at hf;obtain ⟨u,g1,g2⟩:=hr 0 sp hd fuel _ _ hf (fun n hn=>hz n (by simp only [DataW.weightsEach,List.mem_append];exact .inl hn))
  obtain ⟨as,f1,f2,f3⟩:=read_args hp' h2 (fun j t v h1 h2=>hok (j+1) t v (by simpa using h1) (by simpa using h2)) (fun n hn=>hz n (by simp only [DataW.weightsEach,List.mem_append];exact .inr hn))
  refine ⟨u::as,⟨g1,f1⟩,by simp [f2],fun l j x hj=>?_⟩
  cases j with
  | zero =>
   have:u=x:=by simpa using hj
   subst this;have:=g2.2 l 0 u (by rw [hone u g1];rfl)
   simpa using this
  | succ j=>simpa using f3 l j x (by simpa using hj)
def R0:Inst:=⟨fun _=>0,fun _=>0,fun _=>false⟩
theorem lifted_of_lcall{K:Checked}{C:Cfg}{os:Os}(hXg:∀ W,Gnd (heapI W))(started:os.Started){f:FuncId}{fn:Func}{s:ChangeSpec}{conds:List PathCond}{fresh handsOn again:Bool}{Gs:List (LV->Prop)}{tb:TypeId}{H:Type}{enc:TypeId × Value->H}(own:ownKnob K.prog.godebug=none)(hl:laidOutB K.prog=true)(hx:ExtSound K.prog C)(hmix:K.prog.follows .mixedOrders=true)(noInit:K.prog.inits.idxOf? f=none)(hfn:K.prog.funcs[f]? = some fn)(hv:s.vars=[])(hr:∀ t∈fn.params.toList,K.prog.readableRec t=true/\t<K.prog.types.size)(hrt:fn.resultTypes = #[tb])(hbt:K.prog.underlying tb=some .bool)(hG:∀ W,Params enc K.prog R0 W fn.params.toList Gs)(hrun:∀ as,Fits Gs as->∃ n,Z3 K.prog C n f as ⟨0,[]⟩=some (.bool true,⟨0,[]⟩)/\Z9 as=[])(hspec:∀ ds:List (DataW H),ds.length=fn.params.size->(s.fn H ds).results=[.lit (.bool true)]/\(s.fn H ds).args=ds/\(s.fn H ds).vars=[])(hc:∀ (vs:Array Value) (W:World),(callFunc f vs).run K.prog W=.ok (.enter f vs) W)(witness:∃ (w:World) (tape:Tape) (i:Input),w.os=os/\(w.forCall tape i).Shaped K.prog/\i.vars=[]/\Input.okWide K.prog (w.forCall tape i) .any w.heap.size f i /\
   s.pre6 enc K.prog fn conds false (w.forCall tape i).memory i.args/\Assume.holds {} K.prog (Go.lone (Frame.enter K.prog f i.args .normal) [] (w.forCall tape i))):
  ReturnsInHanded {} K os f .any (s.pre6 enc K.prog fn conds false) (s.post enc K.prog fn false fresh handsOn again):=by
 refine returnsInHanded_of_change_sized own started noInit hfn witness ?_
 intro W base args ds gs before hval hW _ hz _;have hW':=hW;obtain ⟨p,q,hA,hV,rfl,hfz,hnd⟩:=hW;rw [hv] at hV;obtain ⟨rfl,rfl⟩:=trodVars_none hV;have hz':∀ n∈DataW.weightsEach K.prog fn.params.toList ds,n<=reachBytes:=fun n hn=>by
  have hv':s.plain.varTypes K.prog=[]:=by
   unfold ChangeSpec.plain;simp [hv,DataSpec.varTypes]
  rw [hv'] at hz;simp only [List.append_nil] at hz;simpa using List.all_eq_true.1 hz n hn
 obtain ⟨as,f1,f2,f3⟩:=read_args (R:=R0) (hG W) hA (fun j t v h1 h2=>⟨base,hval j t v (by simpa using h1) (by simpa using h2)⟩) hz'
 obtain ⟨n,g1,g2⟩:=hrun as f1;have hvs:RVs (heapI W) args (Z1 R0 true as):=by
  refine ⟨by rw [Zu,List.length_map];simpa using f2,fun j u hj=>?_⟩
  rw [Zu,List.getElem?_map] at hj;obtain ⟨x,hx,rfl⟩:=Option.map_eq_some_iff.1 hj;have:=f3 true j x hx;simpa using this
 refine (calls_of_lcall hx hmix (hXg W) g1 g2 hvs (hc args W)).mono fun e W' ⟨he,hb⟩=>?_
 subst he;have hlen:ds.length=fn.params.size:=by
  have:∀ {ts:List TypeId} {vs:List Value} {ds:List (DataW H)} {ps:List MemPlace},DataW.TrodAll enc K.prog W 0 (fun _=>true) true ts vs ds ps->ds.length=ts.length:=by
   intro ts
   induction ts with
   | nil=>intro vs ds ps h;obtain ⟨_,rfl,_⟩:=trodAll_nil h;rfl
   | cons t ts ih =>
    intro vs ds ps h;obtain ⟨_,_,_,_,_,_,_,rfl,_,_,h2⟩:=trodAll_cons h;simp [ih h2]
  simpa using this hA
 obtain ⟨s1,s2,s3⟩:=hspec ds hlen;refine ⟨_,rfl,post_of_below hW' hv hl hr hb (fun _ _ _=>?_) (by simpa using s2) (by simpa using s3) (ok_one hrt rfl (okWide_bool_mk hbt true))⟩
 rw [hrt];simp only [List.append_nil,s1];exact trodAll_cons_mk (shut_bool hbt true) trodAll_mk0
end Go.Mac
