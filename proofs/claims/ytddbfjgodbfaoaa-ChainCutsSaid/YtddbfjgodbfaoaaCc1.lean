/-
 ChainCuts holds for every input: behind any crash there are the records ahead of the cut, and what was appended behind it; no condition.
-/
import Derived.Laws.AppendOwn
import Derived.Laws.MakeOwn
import Derived.Laws.CopyOwn
import Derived.Laws.Tables
import Derived.Laws.Rows
import Derived.Laws.Build
import Derived.Laws.Slices
import Derived.Tactics
import Derived.Laws.Pointers
import Derived.Laws.Small
import Derived.ChangeKeysEq
import Derived.Lib.AppendStr
import Derived.Stop.Asserts
import Derived.Laws.CopyRow
import Derived.Laws.IdiomCopy
import Derived.Great.BuildSlice
import Derived.Laws.BytesArg
import Derived.Laws.IdiomRangeMap
import Derived.RangeFuncRecord
import Derived.Laws.Externs
import Derived.RangeFuncNested
import Derived.RangeFuncLeaves
import Derived.OrdersIn
import Derived.TacticsIn
import Derived.Orders
set_option linter.unusedVariables false
set_option linter.unusedSimpArgs false
namespace Go.Eng
inductive AV where
 | v (x:Value)
 | sl (k:Nat) (xs:List AV)
 | rp (x:AV)
 | agg (cs:List AV)
 | tup (cs:List AV)
 | ifc (t:TypeId) (x:AV)
 | mp (k:IntKind) (es:List (Int × AV))
 | any (ds:List Nat)
 deriving Inhabited
def cellsOf:AV->List AV
 | .agg us=>us
 | x=>[x]
abbrev Imm:=Nat->Option Obj
def Imm.cell(I:Imm)(a:Addr):Option Value:=
 if a.spot.isSome then none else
 match I a.block with
 | some (.cells c _ _)=>c[a.off]?
 | _=>none
def Imm.le(I J:Imm):Prop:=∀ b o,I b=some o->J b=some o
theorem Imm.le_refl(I:Imm):I.le I:=fun _ _ h=>h
theorem Imm.le_trans{I J L:Imm}(h:I.le J)(k:J.le L):I.le L:=fun b o q=>k b o (h b o q)
theorem Imm.cell_mono{I J:Imm}(h:I.le J){a:Addr}{x:Value}(q:I.cell a=some x):J.cell a=some x:=by
 unfold Imm.cell at *
 split at q
 ·simp at q
 ·rename_i hs
  rw [if_neg hs]
  cases hb:I a.block with
  | none=>rw [hb] at q;simp at q
  | some o=>rw [hb] at q;rw [h _ _ hb];exact q
def big:Nat:=281474976710656
inductive RV (I:Imm):Value->AV->Prop where
 | v (x:Value):RV I x (.v x)
 | sl (a:Option Addr) (n c k:Nat) (xs:List AV) (f:Nat->Nat->Value) (hn:n=xs.length) (hc:n<=c) (hb:n<=big)
   (hl:∀ (i:Nat) (x:AV),xs[i]? = some x->(cellsOf x).length=k)
   (ha:xs≠[]->∃ ad,a=some ad/\ad.spot=none)
   (hm:∀ (i:Nat) (x:AV) (j:Nat) (u:AV) (ad:Addr),xs[i]? = some x->(cellsOf x)[j]? = some u->a=some ad->I.cell ⟨ad.block,ad.off+(i*k+j),none⟩=some (f i j))
   (hr:∀ (i:Nat) (x:AV) (j:Nat) (u:AV),xs[i]? = some x->(cellsOf x)[j]? = some u->RV I (f i j) u):RV I (.slice a n c) (.sl k xs)
 | rp (a:Addr) (x:AV) (f:Nat->Value) (hs:a.spot=none)
   (hm:∀ (j:Nat) (u:AV),(cellsOf x)[j]? = some u->I.cell ⟨a.block,a.off+j,none⟩=some (f j))
   (hr:∀ (j:Nat) (u:AV),(cellsOf x)[j]? = some u->RV I (f j) u):RV I (.pointer (some a)) (.rp x)
 | agg (cs:Array Value) (us:List AV) (hl:cs.size=us.length) (hr:∀ (j:Nat) (u:AV),us[j]? = some u->RV I (cs.getD j undef) u):RV I (.agg cs) (.agg us)
 | tup (cs:Array Value) (us:List AV) (hl:cs.size=us.length) (hr:∀ (j:Nat) (u:AV),us[j]? = some u->RV I (cs.getD j undef) u):RV I (.tuple cs) (.tup us)
 | ifc (t:TypeId) (x:Value) (u:AV) (hr:RV I x u):RV I (.iface t x) (.ifc t u)
 | mp (b:Nat) (k:IntKind) (es:List (Int × AV)) (c:Array MapEntry) (cl:Nat) (hI:I b=some (.map c cl)) (hl:c.size=es.length)
   (hk:∀ (j:Nat) (p:Int × AV),es[j]? = some p->(c.getD j default).key=.int k p.1/\(c.getD j default).born<cl)
   (hr:∀ (j:Nat) (p:Int × AV),es[j]? = some p->RV I (c.getD j default).val p.2)
   (ha:∀ (i j:Nat) (m n:MapEntry),c[i]? = some m->c[j]? = some n->m.born=n.born->i=j):RV I (.map (some b)) (.mp k es)
 | any (x:Value) (ds:List Nat):RV I x (.any ds)
theorem RV.mono{I J:Imm}(h:I.le J){x:Value}{u:AV}(r:RV I x u):RV J x u:=by
 induction r with
 | v x=>exact .v x
 | sl a n c k xs f hn hc hb hl ha hm hr ih =>
  exact .sl a n c k xs f hn hc hb hl ha (fun i x j u ad h1 h2 h3=>Imm.cell_mono h (hm i x j u ad h1 h2 h3)) ih
 | rp a x f hs hm hr ih=>exact .rp a x f hs (fun j u h1=>Imm.cell_mono h (hm j u h1)) ih
 | agg cs us hl hr ih=>exact .agg cs us hl ih
 | tup cs us hl hr ih=>exact .tup cs us hl ih
 | ifc t x u hr ih=>exact .ifc t x u ih
 | mp b k es c cl hI hl hk hr ha ih=>exact .mp b k es c cl (h _ _ hI) hl hk ih ha
 | any x ds=>exact .any x ds
def AV.flat:AV->Bool
 | .v _=>true
 | _=>false
def AV.scalar:AV->Bool
 | .v _=>true
 | .tup cs=>cs.all AV.flat
 | .agg cs=>cs.all AV.flat
 | _=>false
theorem AV.flat_iff{u:AV}(h:u.flat=true):∃ x,u=.v x:=by cases u <;> simp [AV.flat] at h;exact ⟨_,rfl⟩
theorem RV.of_v{I:Imm}{x y:Value}(h:RV I x (.v y)):x=y:=by cases h;rfl
theorem RV.scalar{I J:Imm}{x:Value}{u:AV}(h:RV I x u)(hs:u.scalar=true):RV J x u:=by
 cases h with
 | v x=>exact .v x
 | tup cs us hl hr =>
  refine .tup cs us hl fun j u hj=>?_
  have hu:=hr j u hj;simp only [AV.scalar,List.all_eq_true] at hs;obtain ⟨y,rfl⟩:=AV.flat_iff (hs u (List.mem_of_getElem? hj));rw [hu.of_v];exact .v y
 | agg cs us hl hr =>
  refine .agg cs us hl fun j u hj=>?_
  have hu:=hr j u hj;simp only [AV.scalar,List.all_eq_true] at hs;obtain ⟨y,rfl⟩:=AV.flat_iff (hs u (List.mem_of_getElem? hj));rw [hu.of_v];exact .v y
 | sl=>simp [AV.scalar] at hs
 | rp=>simp [AV.scalar] at hs
 | ifc=>simp [AV.scalar] at hs
 | mp=>simp [AV.scalar] at hs
 | any=>simp [AV.scalar] at hs
inductive AObj where
 | cells (e:TypeId) (cs:List AV) (size:Nat)
 | imap (k:IntKind) (es:List (Int × AV))
 | iter (k:IntKind) (rest:List (Int × AV)) (cur:Option (Int × AV))
 | lp (r:Loop) (n:Nat) (e:Nat->AV)
 deriving Inhabited
abbrev Hp:=List (Nat × AObj)
def Hp.keys(s:Hp):List Nat:=s.map (·.1)
structure CellsRel (I:Imm) (w:World) (b:Nat) (e:TypeId) (cs:List AV) (size:Nat) (c:Array Value):Prop where
 block:w.heap[b]? = some (.cells c e (0,0))
 full:c.size=size
 le:cs.length<=size
 cell:∀ (j:Nat) (u:AV),cs[j]? = some u->∃ x,c[j]? = some x/\RV I x u
structure MapRel (I:Imm) (w:World) (b:Nat) (k:IntKind) (es:List (Int × AV)) (c:Array MapEntry) (clock:Nat):Prop where
 block:w.heap[b]? = some (.map c clock)
 full:c.size=es.length
 entry:∀ (j:Nat) (p:Int × AV),es[j]? = some p->∃ m:MapEntry,c[j]? = some m/\m.key=.int k p.1/\RV I m.val p.2/\m.born<clock
 apart:∀ (i j:Nat) (m n:MapEntry),c[i]? = some m->c[j]? = some n->m.born=n.born->i=j
def IterRel(I:Imm)(w:World)(b:Nat)(k:IntKind)(rest:List (Int × AV))(cur:Option (Int × AV)):Prop:=
 (∃ since seen stepped,w.heap[b]? = some (.mapIter none since seen stepped)/\rest=[]/\cur=none) ∨
 ∃ r c cl seen,w.heap[b]? = some (.mapIter (some r) cl seen cl)/\I r=some (.map c cl) /\
  (∀ (j:Nat) (m:MapEntry),c[j]? = some m->m.born<cl) /\
  (∀ (i j:Nat) (m n:MapEntry),c[i]? = some m->c[j]? = some n->m.born=n.born->i=j) /\
  (∃ ms:List MapEntry,(c.filter fun e=>!seen.contains e.born).toList=ms/\ms.length=rest.length/\∀ (j:Nat) (m:MapEntry) (p:Int × AV),ms[j]? = some m->rest[j]? = some p->m.key=.int k p.1/\RV I m.val p.2) /\
  (∀ p,cur=some p->∃ m,m∈c/\seen.back? = some m.born/\m.key=.int k p.1/\RV I m.val p.2)
theorem IterRel.move{I J:Imm}{w v:World}{b:Nat}{k:IntKind}{rest:List (Int × AV)}{cur:Option (Int × AV)}(h:IterRel I w b k rest cur)(hb:v.heap[b]? = w.heap[b]?)(hI:I.le J):IterRel J v b k rest cur:=by
 rcases h with ⟨since,seen,stepped,h1,h2,h3⟩ | ⟨r,c,cl,seen,h1,h2,h3,h4,⟨ms,h5,h6,h7⟩,h8⟩
 ·exact .inl ⟨since,seen,stepped,hb.trans h1,h2,h3⟩
 ·refine .inr ⟨r,c,cl,seen,hb.trans h1,hI _ _ h2,h3,h4,⟨ms,h5,h6,fun j m p q1 q2=>?_⟩,fun p hp=>?_⟩
  ·obtain ⟨g1,g2⟩:=h7 j m p q1 q2
   exact ⟨g1,g2.mono hI⟩
  ·obtain ⟨m,g1,g2,g3,g4⟩:=h8 p hp
   exact ⟨m,g1,g2,g3,g4.mono hI⟩
def ObjRel(I:Imm)(w:World)(b:Nat):AObj->Prop
 | .cells e cs size=>∃ c,CellsRel I w b e cs size c
 | .imap k es=>∃ c clock,MapRel I w b k es c clock
 | .iter k rest cur=>IterRel I w b k rest cur
 | .lp r n e=>w.heap[b]? = some (.loop r)/\r.tmps.size=n/\∀ t,RV I (r.tmps.getD t undef) (e t)
def gndL:List (Addr × Value):=[]
def Gnd(I:Imm):Prop:=∀ a x,(a,x)∈gndL->I.cell a=some x
theorem Gnd.mono{I J:Imm}(g:Gnd I)(h:I.le J):Gnd J:=fun a x ha=>Imm.cell_mono h (g a x ha)
structure Rel (I:Imm) (s:Hp) (w:World):Prop where
 imm:∀ b o,I b=some o->w.heap[b]? = some o
 obj:∀ b o,(b,o)∈s->ObjRel I w b o
 free:∀ b,b∈s.keys->I b=none
 nodup:s.keys.Nodup
 gnd:Gnd I
structure Ext (I:Imm) (s:Hp) (w:World) (J:Imm) (t:Hp) (v:World):Prop where
 os:v.os=w.os
 tape:v.tape=w.tape
 output:v.output=w.output
 size:w.heap.size<=v.heap.size
 frame:∀ b,b<w.heap.size->b∉s.keys->v.heap[b]? = w.heap[b]?
 imm:I.le J
 own:∀ b,b∈t.keys->w.heap.size<=b∨b∈s.keys
 newimm:∀ b,I b=none->J b≠none->w.heap.size<=b∨b∈s.keys
theorem Ext.refl(I:Imm)(s:Hp)(w:World):Ext I s w I s w:=
 ⟨rfl,rfl,rfl,Nat.le_refl _,fun _ _ _=>rfl,Imm.le_refl _,fun b h=>.inr h,fun b h k=>absurd h k⟩
theorem Ext.trans{I J L:Imm}{s t r:Hp}{w v x:World}(h:Ext I s w J t v)(k:Ext J t v L r x):Ext I s w L r x:=by
 refine ⟨k.os.trans h.os,k.tape.trans h.tape,k.output.trans h.output,Nat.le_trans h.size k.size,fun b hb hs=>?_,Imm.le_trans h.imm k.imm,fun b hb=>?_,fun b h1 h2=>?_⟩
 ·rw [k.frame b (Nat.lt_of_lt_of_le hb h.size) (fun ht=>(h.own b ht).elim (fun q=>by omega) hs)]
  exact h.frame b hb hs
 ·rcases k.own b hb with q | q
  ·exact .inl (Nat.le_trans h.size q)
  ·exact h.own b q
 ·by_cases hj:J b=none
  ·rcases k.newimm b hj h2 with q | q
   ·exact .inl (Nat.le_trans h.size q)
   ·exact h.own b q
  ·exact h.newimm b h1 hj
theorem ObjRel.move{I J:Imm}{w v:World}{b:Nat}{o:AObj}(h:ObjRel I w b o)(hb:v.heap[b]? = w.heap[b]?)(hI:I.le J):ObjRel J v b o:=by
 cases o with
 | cells e cs size =>
  obtain ⟨c,hc⟩:=h
  exact ⟨c,hb.trans hc.block,hc.full,hc.le,fun j u hj=>by obtain ⟨x,h1,h2⟩:=hc.cell j u hj;exact ⟨x,h1,h2.mono hI⟩⟩
 | imap k es =>
  obtain ⟨c,cl,hc⟩:=h
  exact ⟨c,cl,hb.trans hc.block,hc.full,fun j p hj=>by obtain ⟨m,h1,h2,h3,h4⟩:=hc.entry j p hj;exact ⟨m,h1,h2,h3.mono hI,h4⟩,hc.apart⟩
 | iter k rest cur=>exact IterRel.move h hb hI
 | lp r n e=>exact ⟨hb.trans h.1,h.2.1,fun t=>(h.2.2 t).mono hI⟩
theorem ObjRel.lt{I:Imm}{w:World}{b:Nat}{o:AObj}(h:ObjRel I w b o):b<w.heap.size:=by
 have key:∀ x,w.heap[b]? = some x->b<w.heap.size:=fun x hx=>by
  rcases Nat.lt_or_ge b w.heap.size with h' | h'
  ·exact h'
  ·rw [Array.getElem?_eq_none h'] at hx;simp at hx
 cases o with
 | cells e cs size=>obtain ⟨c,hc⟩:=h;exact key _ hc.block
 | imap k es=>obtain ⟨c,cl,hc⟩:=h;exact key _ hc.block
 | iter k rest cur =>
  rcases h with ⟨_,_,_,h1,_⟩ | ⟨_,_,_,_,h1,_⟩
  ·exact key _ h1
  ·exact key _ h1
 | lp r n e=>exact key _ h.1
theorem Rel.lt{I:Imm}{s:Hp}{w:World}(h:Rel I s w){b:Nat}(hb:b∈s.keys):b<w.heap.size:=by
 obtain ⟨p,hp,rfl⟩:=List.mem_map.1 hb;exact (h.obj p.1 p.2 hp).lt
theorem Rel.imm_lt{I:Imm}{s:Hp}{w:World}(h:Rel I s w){b:Nat}{o:Obj}(hb:I b=some o):b<w.heap.size:=by
 have:=h.imm b o hb
 rcases Nat.lt_or_ge b w.heap.size with h' | h'
 ·exact h'
 ·rw [Array.getElem?_eq_none h'] at this;simp at this
theorem Rel.fresh{I:Imm}{s:Hp}{w:World}(h:Rel I s w):I w.heap.size=none:=by
 cases hb:I w.heap.size with
 | none=>rfl
 | some o=>exact absurd (h.imm_lt hb) (by omega)
theorem Rel.fresh_key{I:Imm}{s:Hp}{w:World}(h:Rel I s w):w.heap.size∉s.keys:=fun hk=>absurd (h.lt hk) (by omega)
theorem Rel.sub{I:Imm}{s t:Hp}{w:World}(h:Rel I s w)(hs:∀ p,p∈t->p∈s)(hn:t.keys.Nodup):Rel I t w:=by
 refine ⟨h.imm,fun b o hb=>h.obj b o (hs _ hb),fun b hb=>?_,hn,h.gnd⟩
 obtain ⟨p,hp,rfl⟩:=List.mem_map.1 hb;exact h.free p.1 (List.mem_map.2 ⟨p,hs p hp,rfl⟩)
theorem Ext.sub{I J:Imm}{s t r:Hp}{w v:World}(h:Ext I s w J t v)(hs:∀ p,p∈r->p∈t):Ext I s w J r v:=
 ⟨h.os,h.tape,h.output,h.size,h.frame,h.imm,fun b hb=>h.own b (by
  obtain ⟨p,hp,rfl⟩:=List.mem_map.1 hb;exact List.mem_map.2 ⟨p,hs p hp,rfl⟩),h.newimm⟩
theorem Rel.drew{I:Imm}{s:Hp}{w:World}(h:Rel I s w):Rel I s w.drew:=
 ⟨h.imm,fun b o hb=>(h.obj b o hb).move rfl (Imm.le_refl _),h.free,h.nodup,h.gnd⟩
theorem Ext.drew(I:Imm)(s:Hp)(w:World):Ext I s w I s w.drew:=
 ⟨rfl,rfl,rfl,Nat.le_refl _,fun _ _ _=>rfl,Imm.le_refl _,fun b h=>.inr h,fun b h k=>absurd h k⟩
theorem Rel.alloc{I:Imm}{s:Hp}{w:World}(h:Rel I s w)(o:Obj)(a:AObj)(ha:ObjRel I (w.alloc o) w.heap.size a):Rel I ((w.heap.size,a)::s) (w.alloc o):=by
 refine ⟨fun b x hb=>?_,fun b x hb=>?_,fun b hb=>?_,?_,h.gnd⟩
 ·rw [heap_alloc_old w o (h:=h.imm_lt hb)];exact h.imm b x hb
 ·rcases List.mem_cons.1 hb with hb | hb
  ·injection hb with h1 h2;subst h1;subst h2;exact ha
  ·exact (h.obj b x hb).move (heap_alloc_old w o (h:=(h.obj b x hb).lt)) (Imm.le_refl _)
 ·rcases List.mem_cons.1 (show b∈w.heap.size::s.keys from hb) with hb | hb
  ·rw [hb];exact h.fresh
  ·exact h.free b hb
 ·exact List.nodup_cons.2 ⟨h.fresh_key,h.nodup⟩
theorem Ext.alloc(I:Imm)(s:Hp)(w:World)(o:Obj)(a:AObj):Ext I s w I ((w.heap.size,a)::s) (w.alloc o):=
 ⟨rfl,rfl,rfl,by simp,fun b hb _=>heap_alloc_old w o (h:=hb),Imm.le_refl _,fun b hb=>by
  rcases List.mem_cons.1 (show b∈w.heap.size::s.keys from hb) with hb | hb
  ·exact .inl (by omega)
  ·exact .inr hb,fun b h k=>absurd h k⟩
def Hp.get(s:Hp)(b:Nat):Option AObj:=(s.find? (fun p=>p.1==b)).map (·.2)
def Hp.set(s:Hp)(b:Nat)(o:AObj):Hp:=s.map fun p=>if p.1=b then (b,o) else p
theorem Hp.get_mem{s:Hp}{b:Nat}{o:AObj}(h:s.get b=some o):(b,o)∈s:=by
 obtain ⟨p,hp,rfl⟩:=Option.map_eq_some_iff.1 h;have h1:=List.mem_of_find?_eq_some hp;have h2:=List.find?_some hp;simp at h2;subst h2;exact h1
theorem Hp.get_key{s:Hp}{b:Nat}{o:AObj}(h:s.get b=some o):b∈s.keys:=List.mem_map.2 ⟨_,Hp.get_mem h,rfl⟩
theorem Hp.keys_set(s:Hp)(b:Nat)(o:AObj):(s.set b o).keys=s.keys:=by
 simp only [Hp.keys,Hp.set,List.map_map];apply List.map_congr_left;intro p _;simp only [Function.comp]
 split
 ·rename_i h;exact h.symm
 ·rfl
theorem Hp.mem_set{s:Hp}{b:Nat}{o:AObj}{q:Nat × AObj}(h:q∈s.set b o):(q=(b,o)/\b∈s.keys)∨(q∈s/\q.1≠b):=by
 obtain ⟨p,hp,hq⟩:=List.mem_map.1 h
 split at hq
 ·rename_i e;exact .inl ⟨hq.symm,List.mem_map.2 ⟨p,hp,e⟩⟩
 ·rename_i e;subst hq;exact .inr ⟨hp,e⟩
theorem Rel.turn{I:Imm}{s:Hp}{w w':World}(h:Rel I s w){b:Nat}(hb:b∈s.keys)(o:AObj)(ho:ObjRel I w' b o)(hh:∀ k,k≠b->w'.heap[k]? = w.heap[k]?):Rel I (s.set b o) w':=by
 refine ⟨fun k x hk=>?_,fun k x hk=>?_,fun k hk=>?_,by rw [Hp.keys_set];exact h.nodup,h.gnd⟩
 ·rw [hh k (fun e=>by subst e;rw [h.free _ hb] at hk;simp at hk)];exact h.imm k x hk
 ·rcases Hp.mem_set hk with ⟨hq,_⟩ | ⟨hq,hne⟩
  ·injection hq with h1 h2;subst h1;subst h2;exact ho
  ·exact (h.obj k x hq).move (hh k hne) (Imm.le_refl _)
 ·rw [Hp.keys_set] at hk;exact h.free k hk
theorem Ext.turn(I:Imm)(s:Hp){w w':World}{b:Nat}(hb:b∈s.keys)(o:AObj)(h1:w'.os=w.os)(h2:w'.tape=w.tape)(h3:w'.output=w.output)(h4:w'.heap.size=w.heap.size)(hh:∀ k,k≠b->w'.heap[k]? = w.heap[k]?):Ext I s w I (s.set b o) w':=
 ⟨h1,h2,h3,by omega,fun k hk hs=>hh k (fun e=>hs (e▸hb)),Imm.le_refl _,fun k hk=>.inr (by rw [Hp.keys_set] at hk;exact hk),fun k h q=>absurd h q⟩
def Imm.put(I:Imm)(b:Nat)(o:Obj):Imm:=fun k=>if k=b then some o else I k
theorem Imm.le_put(I:Imm)(b:Nat)(o:Obj)(h:I b=none):I.le (I.put b o):=fun k x hk=>by
 unfold Imm.put;rw [if_neg (fun e=>by subst e;rw [h] at hk;simp at hk)];exact hk
theorem Rel.freeze{I:Imm}{s:Hp}{w:World}{b:Nat}{o:AObj}(h:Rel I s w)(hb:(b,o)∈s)(x:Obj)(hx:w.heap[b]? = some x):
  Rel (I.put b x) (s.filter (fun p=>p.1 != b)) w:=by
 have hk:b∈s.keys:=List.mem_map.2 ⟨_,hb,rfl⟩;refine ⟨fun k y hy=>?_,fun k y hy=>?_,fun k hy=>?_,?_,h.gnd.mono (Imm.le_put I b x (h.free b hk))⟩
 ·unfold Imm.put at hy
  split at hy
  ·rename_i e;subst e;injection hy with hy;subst hy;exact hx
  ·exact h.imm k y hy
 ·exact (h.obj k y (List.mem_filter.1 hy).1).move rfl (Imm.le_put I b x (h.free b hk))
 ·obtain ⟨p,hp,rfl⟩:=List.mem_map.1 hy
  obtain ⟨hp1,hp2⟩:=List.mem_filter.1 hp;unfold Imm.put;rw [if_neg (by simpa using hp2)]
  exact h.free p.1 (List.mem_map.2 ⟨p,hp1,rfl⟩)
 ·exact h.nodup.sublist (List.Sublist.map _ List.filter_sublist)
theorem Ext.freeze(I:Imm){s:Hp}(w:World){b:Nat}(hI:I b=none)(hb:b∈s.keys)(x:Obj):Ext I s w (I.put b x) (s.filter (fun p=>p.1 != b)) w:=
 ⟨rfl,rfl,rfl,Nat.le_refl _,fun _ _ _=>rfl,Imm.le_put I b x hI,fun k hk=>.inr (by
  obtain ⟨p,hp,rfl⟩:=List.mem_map.1 hk;exact List.mem_map.2 ⟨p,(List.mem_filter.1 hp).1,rfl⟩),fun k h q=>by
  unfold Imm.put at q
  split at q
  ·rename_i e;subst e;exact .inr hb
  ·exact absurd h q⟩
abbrev Env:=Nat->AV
def Env.upd(e:Env)(t:Nat)(x:AV):Env:=fun s=>if s=t then x else e s
def Env.put(e:Env):Option Tmp->AV->Env
 | some d,x=>e.upd d x
 | none,_=>e
def ofValue:Value->AV
 | .agg cs=>.agg (cs.toList.map .v)
 | .tuple cs=>.tup (cs.toList.map .v)
 | x=>.v x
def ev(e:Env):Operand->AV
 | .tmp t=>e t
 | .const x=>ofValue x
 | .global g=>.v (.pointer (some ⟨g,0,none⟩))
 | .func f=>.v (.func (.func f) #[] #[])
abbrev Fr:=Nat × List Deferred
structure EnvRel (I:Imm) (n:Fr) (a:Act) (e:Env):Prop where
 size:a.tmps.size=n.1
 defers:a.defers=n.2
 rv:∀ t,RV I (a.tmps.getD t undef) (e t)
theorem RV.ofValue(I:Imm)(x:Value):RV I x (ofValue x):=by
 have key:∀ (cs:Array Value) (j:Nat) (u:AV),(cs.toList.map AV.v)[j]? = some u->RV I (cs.getD j undef) u:=by
  intro cs j u h;rw [List.getElem?_map] at h;obtain ⟨y,hy,rfl⟩:=Option.map_eq_some_iff.1 h;have:cs.getD j undef=y:=by simp only [Array.getElem?_toList] at hy;simp [hy]
  rw [this];exact .v y
 cases x <;> try exact .v _
 ·rename_i cs;exact .agg cs _ (by simp) (key cs)
 ·rename_i cs;exact .tup cs _ (by simp) (key cs)
theorem EnvRel.ev{I:Imm}{n:Fr}{a:Act}{e:Env}(h:EnvRel I n a e)(x:Operand):RV I (a.eval x) (ev e x):=by
 cases x with
 | tmp t=>exact h.rv t
 | const x=>exact RV.ofValue I x
 | global g=>exact .v _
 | func f=>exact .v _
theorem EnvRel.mono{I J:Imm}{n:Fr}{a:Act}{e:Env}(h:EnvRel I n a e)(hI:I.le J):EnvRel J n a e:=⟨h.size,h.defers,fun t=>(h.rv t).mono hI⟩
theorem EnvRel.put{I:Imm}{n:Fr}{a:Act}{e:Env}(h:EnvRel I n a e)(d:Option Tmp)(hd:∀ t,d=some t->t<n.1){x:Value}{u:AV}(r:RV I x u):EnvRel I n (a.put d x) (e.put d u):=by
 cases d with
 | none=>exact h
 | some d =>
  have hdn:=hd d rfl;refine ⟨by simp [Act.put,h.size],h.defers,fun t=>?_⟩
  simp only [Act.put,Env.put,Env.upd]
  by_cases ht:t=d
  ·subst ht
   rw [if_pos rfl];have:t<a.tmps.size:=by rw [h.size];exact hdn
   simpa [Array.getD,this] using r
  ·rw [if_neg ht]
   have:=h.rv t;simp only [Array.getD_eq_getD_getElem?] at this ⊢
   rwa [Array.getElem?_setIfInBounds_ne (by omega)]
def OpS(P:Program)(o:Oper)(e:Env)(s:Hp)(K:AV->Hp->Prop):Prop:=
 ∀ n I w a,EnvRel I n a e->Rel I s w->∀ (next:Act->World->Prop) (Q:Exit->Act->World->Prop),
  (∀ v r t J w',RV J v r->Rel J t w'->Ext I s w J t w'->K r t->next (a.put o.dst v) w')->o.wp P a w next Q
theorem OpS.run{P:Program}{o:Oper}{e:Env}{s:Hp}{K:AV->Hp->Prop}(h:∀ n I w a,EnvRel I n a e->Rel I s w->∃ v r t J w',(execOp a.eval o).run P w=.ok (.value v) w'/\RV J v r/\Rel J t w'/\Ext I s w J t w'/\K r t):OpS P o e s K:=by
 intro n I w a he hs next Q hn;obtain ⟨v,r,t,J,w',h1,h2,h3,h4,h5⟩:=h n I w a he hs;simp only [Oper.wp,h1,Oper.upon_value];exact hn v r t J w' h2 h3 h4 h5
theorem OpS.skip{P:Program}{o:Oper}{e:Env}{s:Hp}{K:AV->Hp->Prop}(h:∀ n I w a,EnvRel I n a e->Rel I s w->∃ t J w',(execOp a.eval o).run P w=.ok .skip w'/\Rel J t w'/\Ext I s w J t w'/\K (.v undef) t):OpS P o e s K:=by
 intro n I w a he hs next Q hn;obtain ⟨t,J,w',h1,h3,h4,h5⟩:=h n I w a he hs;simp only [Oper.wp,h1,Oper.upon_skip];exact hn undef (.v undef) t J w' (.v _) h3 h4 h5
theorem OpS.pure{P:Program}{o:Oper}{e:Env}{s:Hp}{K:AV->Hp->Prop}(h:∀ n I w a,EnvRel I n a e->Rel I s w->∃ v r,(execOp a.eval o).run P w=.ok (.value v) w/\RV I v r/\K r s):OpS P o e s K:=
 OpS.run fun n I w a he hs=>by
  obtain ⟨v,r,h1,h2,h3⟩:=h n I w a he hs;exact ⟨v,r,s,I,w,h1,h2,hs,Ext.refl _ _ _,h3⟩
def Xn(P:Program)(t:TypeId):Option TypeId:=
 match P.underlying t with
 | some (.slice e)=>some e
 | _=>none
def arrT(P:Program)(t:TypeId):Option (Nat × TypeId):=
 match P.underlying t with
 | some (.array n e)=>some (n,e)
 | _=>none
def intT(P:Program)(t:TypeId):Option IntKind:=
 match P.underlying t with
 | some (.int k)=>some k
 | _=>none
def isAggD:TypeDesc->Bool
 | .struct _=>true
 | .array _ _=>true
 | _=>false
def Yu(P:Program)(t:TypeId):Option (Bool × Nat):=
 match P.underlying t,P.info? t with
 | some d,some i=>some (isAggD d,i.size)
 | _,_=>none
def Xp(P:Program)(t:TypeId):Option Value:=(P.info? t).bind (·.zero)
def fieldT(P:Program)(t:TypeId)(f:Nat):Option (Nat × Bool × Nat):=
 match P.underlying t with
 | some (.struct fs) =>
  match fs[f]? with
  | some fl=>match Yu P fl.type with
   | some (b,0)=>none
   | some (b,n+1)=>some (fl.offset,b,n+1)
   | none=>none
  | none=>none
 | _=>none
def Yl(P:Program)(t:TypeId):Option Bool:=
 match P.underlying t with
 | some (.interface _)=>some true
 | some _=>some false
 | none=>none
def mapT(P:Program)(t:TypeId):Option (IntKind × TypeId):=
 match P.underlying t with
 | some (.map k e)=>(intT P k).map fun i=>(i,e)
 | _=>none
theorem run_isAgg{P:Program}{t:TypeId}{b:Bool}{n:Nat}(h:Yu P t=some (b,n))(w:World):(isAgg t).run P w=.ok b w:=by
 unfold Yu at h
 cases hu:P.underlying t with
 | none=>simp [hu] at h
 | some d =>
  cases hi:P.info? t with
  | none=>simp [hu,hi] at h
  | some i =>
   simp only [hu,hi,Option.some.injEq,Prod.mk.injEq] at h;obtain ⟨rfl,rfl⟩:=h
   cases d <;> simp [isAgg,run_underlying hu,isAggD]
theorem Ya{P:Program}{t:TypeId}{b:Bool}{n:Nat}(h:Yu P t=some (b,n))(w:World):(sizeOf t).run P w=.ok n w:=by
 unfold Yu at h
 cases hu:P.underlying t with
 | none=>simp [hu] at h
 | some d =>
  cases hi:P.info? t with
  | none=>simp [hu,hi] at h
  | some i =>
   simp only [hu,hi,Option.some.injEq,Prod.mk.injEq] at h;obtain ⟨rfl,rfl⟩:=h
   simp [sizeOf,typeInfo,hi]
theorem elemT_eq{P:Program}{t e:TypeId}(h:Xn P t=some e):P.underlying t=some (.slice e):=by
 unfold Xn at h;split at h <;> simp_all
theorem arrT_eq{P:Program}{t e:TypeId}{n:Nat}(h:arrT P t=some (n,e)):P.underlying t=some (.array n e):=by
 unfold arrT at h;split at h <;> simp_all
theorem intT_eq{P:Program}{t:TypeId}{k:IntKind}(h:intT P t=some k):P.underlying t=some (.int k):=by
 unfold intT at h;split at h <;> simp_all
def AV.one:AV->Bool
 | .v x=>x.oneCell'
 | .agg _=>false
 | .tup _=>false
 | .any _=>false
 | _=>true
theorem RV.one{I:Imm}{x:Value}{u:AV}(h:RV I x u)(ho:u.one=true):x.oneCell'=true:=by
 cases h <;> simp_all [AV.one,Value.oneCell']
def AV.isAgg:AV->Bool
 | .agg _=>true
 | _=>false
theorem RV.cells{I:Imm}{x:Value}{u:AV}(h:RV I x u)(ho:(cellsOf u).all AV.one=true):
  x.cells.size=(cellsOf u).length/\∀ (j:Nat) (y:AV),(cellsOf u)[j]? = some y->∃ z:Value,x.cells[j]? = some z/\RV I z y/\z.oneCell'=true:=by
 have single:∀ (x:Value) (u:AV),RV I x u->x.cells = #[x]->cellsOf u=[u]->(cellsOf u).all AV.one=true ->
   x.cells.size=(cellsOf u).length/\∀ (j:Nat) (y:AV),(cellsOf u)[j]? = some y->∃ z:Value,x.cells[j]? = some z/\RV I z y/\z.oneCell'=true:=by
  intro x u hr hx hu ho;rw [hx,hu] at *;refine ⟨rfl,fun j y hj=>?_⟩
  cases j with
  | zero =>
   simp at hj;subst hj;exact ⟨x,rfl,hr,hr.one (by simpa [hu] using ho)⟩
  | succ j=>simp at hj
 cases h with
 | v x =>
  have h1:x.oneCell'=true:=by simpa [cellsOf,AV.one] using ho
  exact single _ _ (.v x) (by cases x <;> simp_all [Value.cells,Value.oneCell']) rfl ho
 | sl a n c k xs f hn hc hb hl ha hm hr=>exact single _ _ (.sl a n c k xs f hn hc hb hl ha hm hr) rfl rfl ho
 | rp a x f hs hm hr=>exact single _ _ (.rp a x f hs hm hr) rfl rfl ho
 | ifc t x u hr=>exact single _ _ (.ifc t x u hr) rfl rfl ho
 | mp b k es c cl hI hl hk hr ha=>exact single _ _ (.mp b k es c cl hI hl hk hr ha) rfl rfl ho
 | tup cs us hl hr=>simp [cellsOf,AV.one] at ho
 | any x ds=>simp [cellsOf,AV.one] at ho
 | agg cs us hl hr =>
  refine ⟨hl,fun j y hj=>?_⟩
  have hj':j<cs.size:=by rw [hl];exact (List.getElem?_eq_some_iff.1 hj).1
  refine ⟨cs.getD j undef,?_,hr j y hj,(hr j y hj).one (List.all_eq_true.1 ho y (List.mem_of_getElem? hj))⟩;simp [Value.cells,hj']
def aint(op:BinOp)(k:IntKind)(a b:Int)(K:AV->Prop):Prop:=
 match op with
 | .add=>K (.v (.int k (k.wrap (a+b))))
 | .sub=>K (.v (.int k (k.wrap (a-b))))
 | .mul=>K (.v (.int k (k.wrap (a*b))))
 | .quo=>b≠0/\K (.v (.int k (k.wrap (a.tdiv b))))
 | .rem=>b≠0/\K (.v (.int k (a.tmod b)))
 | .and=>K (.v (.int k (bits .and k a b)))
 | .or=>K (.v (.int k (bits .or k a b)))
 | .xor=>K (.v (.int k (bits .xor k a b)))
 | .andNot=>K (.v (.int k (bits .andNot k a b)))
 | .shl=>False
 | .shr=>False
 | .eql=>K (.v (.bool (decide (a=b))))
 | .neq=>K (.v (.bool (!decide (a=b))))
 | .lss=>K (.v (.bool (decide (a<b))))
 | .leq=>K (.v (.bool (decide (a<=b))))
 | .gtr=>K (.v (.bool (decide (b<a))))
 | .geq=>K (.v (.bool (decide (b<=a))))
def ashift(op:BinOp)(k:IntKind)(a b:Int)(K:AV->Prop):Prop:=
 match op with
 | .shl=>0<=b/\K (.v (.int k (k.wrap (a*2 ^ (min b.toNat k.bits)))))
 | .shr=>0<=b/\K (.v (.int k (a.fdiv (2 ^ (min b.toNat k.bits)))))
 | _=>False
def isNilC:Operand->Bool
 | .const .nilIface=>true
 | _=>false
def anil(P:Program)(t:TypeId):AV->Option Bool
 | .v .nilIface=>if Yl P t=some true then some true else none
 | .v (.iface _ _)=>if Yl P t=some true then some false else none
 | .ifc _ _=>if Yl P t=some true then some false else none
 | _=>none
def V2(P:Program)(t:TypeId):Bool:=match P.underlying t with | some (.slice _)=>true | _=>false
def isPtrT(P:Program)(t:TypeId):Bool:=match P.underlying t with | some (.pointer _)=>true | _=>false
def anils(P:Program)(t:TypeId):AV->Option Bool
 | .v (.slice a _ _)=>if V2 P t then some a.isNone else none
 | .sl _ (_::_)=>if V2 P t then some false else none
 | _=>none
def anilm(P:Program)(t:TypeId):AV->Option Bool
 | .v (.map m)=>match P.underlying t with
  | some (.map _ _)=>some m.isNone
  | _=>none
 | .mp _ _=>match P.underlying t with
  | some (.map _ _)=>some false
  | _=>none
 | _=>none
def cmpT(P:Program)(t:TypeId):Option IntKind:=
 match P.info? t with
 | some i=>if i.comparable then intT P t else none
 | none=>none
def aifeq(P:Program)(t:TypeId):AV->TypeId->Value->Option Bool
 | .v (.iface d (.int k a)),d',.int k' b=>if Yl P t=some true then (if d=d' then (if cmpT P d=some k/\k=k' then some (a==b) else none) else some false) else none
 | .v (.iface d _),d',_=>if Yl P t=some true/\d≠d' then some false else none
 | .ifc d _,d',_=>if Yl P t=some true/\d≠d' then some false else none
 | .v .nilIface,_,_=>if Yl P t=some true then some false else none
 | _,_,_=>none
def intsA(k:IntKind):List AV->Option (List Int)
 | []=>some []
 | .v (.int k' a)::l=>if k'=k then (intsA k l).map (a::·) else none
 | _=>none
def aarr(P:Program)(t:TypeId)(us vs:List AV):Option Bool:=
 match P.underlying t with
 | some (.array n el) =>
  match P.underlying el with
  | some (.int k) =>
   if P.eqGuardType P.depth t=false/\P.cellsOf el=1/\us.length=n/\vs.length=n then
    match intsA k us,intsA k vs with
    | some a,some b=>some (a==b)
    | _,_=>none
   else none
  | _=>none
 | _=>none
theorem intsA_get{k:IntKind}:∀ {us:List AV} {as:List Int},intsA k us=some as->as.length=us.length/\∀ (i:Nat) (a:Int),as[i]? = some a->us[i]? = some (.v (.int k a))
 | [],as,h=>by
  simp only [intsA,Option.some.injEq] at h;subst h;exact ⟨rfl,by simp⟩
 | u::us,as,h=>by
  unfold intsA at h
  split at h
  ·simp at *
  ·rename_i k' a l e
   injection e with e1 e2
   subst e1;subst e2
   split at h
   ·rename_i hk
    subst hk;obtain ⟨bs,hb,rfl⟩:=Option.map_eq_some_iff.1 h;obtain ⟨h1,h2⟩:=intsA_get hb;refine ⟨by simp [h1],fun i b hi=>?_⟩
    cases i with
    | zero=>simp at hi;subst hi;rfl
    | succ i=>simpa using h2 i b (by simpa using hi)
   ·simp at h
  ·simp at h
theorem run_part_num{P:Program}{el:TypeId}{k:IntKind}(he:P.underlying el=some (.int k))(xs:Array Value)(j:Nat){v:Value}(hx:xs[j]? = some v)(w:World):(part el xs j).run P w=.ok v w:=by
 simp [part,isAgg,run_underlying he,hx]
theorem run_eqNums{P:Program}{el:TypeId}{k:IntKind}(he:P.underlying el=some (.int k))(d:Nat)(xs ys:Array Value)(as bs:List Int)(hl:as.length=bs.length)(hx:∀ (i:Nat) (a:Int),as[i]? = some a->xs[i]? = some (.int k a))(hy:∀ (i:Nat) (a:Int),bs[i]? = some a->ys[i]? = some (.int k a))(w:World):
  ∀ (m i:Nat),i+m=as.length->(Op.eqItems (d+1) el 1 xs ys (List.range' i m)).run P w=.ok (as.drop i==bs.drop i) w
 | 0,i,h=>by
  rw [List.drop_of_length_le (by omega),List.drop_of_length_le (by omega)]
  rfl
 | m+1,i,h=>by
  have hi:i<as.length:=by omega
  have hj:i<bs.length:=by omega
  have h1:=run_part_num (P:=P) he xs i (hx i _ (List.getElem?_eq_getElem hi)) w;have h2:=run_part_num (P:=P) he ys i (hy i _ (List.getElem?_eq_getElem hj)) w;have h3:(Op.equalIn (d+1) el (.int k as[i]) (.int k bs[i])).run P w=.ok (as[i]==bs[i]) w:=by
   simp [Op.equalIn,run_underlying he]
  rw [List.range'_succ];simp only [Op.eqItems,Sem.run_bind,Nat.mul_one,h1,h2,h3,Result.andThen_ok];have ih:=run_eqNums he d xs ys as bs hl hx hy w m (i+1) (by omega)
  rw [List.drop_eq_getElem_cons hi,List.drop_eq_getElem_cons hj];have e:((as[i]::as.drop (i+1))==(bs[i]::bs.drop (i+1)))=((as[i]==bs[i])&&(as.drop (i+1)==bs.drop (i+1))):=rfl;rw [e]
  cases hq:(as[i]==bs[i]) with
  | true =>
   simp only [Bool.not_true,Bool.false_eq_true,if_false,Bool.true_and];exact ih
  | false =>
   simp only [Bool.not_false,if_true,Bool.false_and]
   rfl
theorem run_aarr{P:Program}{t:TypeId}{us vs:List AV}{b:Bool}{I:Imm}{cx cy:Array Value}(h:aarr P t us vs=some b)(hx:RV I (.agg cx) (.agg us))(hy:RV I (.agg cy) (.agg vs))(w:World):
  P.eqGuardType P.depth t=false/\(Op.equalIn 10000 t (.agg cx) (.agg cy)).run P w=.ok b w:=by
 unfold aarr at h
 split at h
 case h_2=>simp at h
 rename_i n el ht
 split at h
 case h_2=>simp at h
 rename_i k he
 split at h
 case isFalse=>simp at h
 rename_i hc;obtain ⟨hg,hcell,hu,hv⟩:=hc
 split at h
 case h_2=>simp at h
 rename_i as bs ha hb;injection h with h
 subst h;refine ⟨hg,?_⟩;obtain ⟨la,ga⟩:=intsA_get ha;obtain ⟨lb,gb⟩:=intsA_get hb;have cell:∀ {c:Array Value} {us:List AV} {as:List Int},RV I (.agg c) (.agg us)->as.length=us.length->(∀ (i:Nat) (a:Int),as[i]? = some a->us[i]? = some (.v (.int k a)))->∀ (i:Nat) (a:Int),as[i]? = some a->c[i]? = some (.int k a):=by
  intro c us as hr hl hg i a hi
  cases hr with
  | agg _ _ hsz hr =>
   have hlt:i<as.length:=(List.getElem?_eq_some_iff.1 hi).1;have hlt2:i<c.size:=by omega
   have:=(hr i _ (hg i a hi)).of_v;rw [Array.getElem?_eq_getElem hlt2,<- this];simp [Array.getD,hlt2]
 obtain ⟨inf,hinf⟩:=info_of_underlying he;rw [show (10000:Nat)=9999+1 from rfl,run_equalIn_array (i:=inf) w 9999 cx cy ht hinf,hcell,List.range_eq_range']
 have:=run_eqNums (P:=P) he 9998 cx cy as bs (by omega) (cell hx la ga) (cell hy lb gb) w n 0 (by omega)
 simpa using this
def Xd(P:Program)(op:BinOp)(t:TypeId)(xo yo:Operand)(x y:AV)(K:AV->Prop):Prop:=
 match x,y with
 | .v (.int k a),.v (.int k' b) =>
  match op with
  | .shl=>ashift .shl k a b K
  | .shr=>ashift .shr k a b K
  | op=>k=k'/\aint op k a b K
 | .v (.bool a),.v (.bool b) =>
  match op with
  | .eql=>P.underlying t=some .bool/\K (.v (.bool (a==b)))
  | .neq=>P.underlying t=some .bool/\K (.v (.bool (!(a==b))))
  | _=>False
 | .v (.string a),.v (.string b) =>
  match op with
  | .eql=>K (.v (.bool (a.toList==b.toList)))
  | .neq=>K (.v (.bool (!(a.toList==b.toList))))
  | .lss=>K (.v (.bool (Op.bytesLess a.toList b.toList)))
  | .gtr=>K (.v (.bool (!(Op.bytesLess a.toList b.toList||a.toList==b.toList))))
  | .add=>a.size+b.size<=big/\K (.v (.string (a++b)))
  | _=>False
 | x,.v (.slice none _ _) =>
  match op,anils P t x with
  | .eql,some b=>K (.v (.bool b))
  | .neq,some b=>K (.v (.bool (!b)))
  | _,_=>False
 | .v (.pointer p),.v (.pointer none) =>
  match op with
  | .eql=>isPtrT P t=true/\K (.v (.bool p.isNone))
  | .neq=>isPtrT P t=true/\K (.v (.bool (!p.isNone)))
  | _=>False
 | x,.v .nilIface =>
  match op,isNilC yo,anil P t x with
  | .eql,true,some b=>K (.v (.bool b))
  | .neq,true,some b=>K (.v (.bool (!b)))
  | _,_,_=>False
 | x,.v (.map none) =>
  match op,anilm P t x with
  | .eql,some b=>K (.v (.bool b))
  | .neq,some b=>K (.v (.bool (!b)))
  | _,_=>False
 | x,.v (.iface d y) =>
  match op,aifeq P t x d y with
  | .eql,some b=>K (.v (.bool b))
  | .neq,some b=>K (.v (.bool (!b)))
  | _,_=>False
 | .agg us,.agg vs =>
  match op,aarr P t us vs with
  | .eql,some b=>K (.v (.bool b))
  | .neq,some b=>K (.v (.bool (!b)))
  | _,_=>False
 | _,_=>False
theorem OpS.move{P:Program}{e:Env}{s:Hp}{K:AV->Hp->Prop}{o:Oper}(x:Operand)(ho:o.op=.move x)(h:K (ev e x) s):OpS P o e s K:=
 OpS.pure fun n I w a he hs=>⟨a.eval x,ev e x,by simp [execOp,ho],he.ev x,h⟩
theorem OpS.assign{P:Program}{e:Env}{s:Hp}{K:AV->Hp->Prop}{o:Oper}(x:Operand)(ho:o.op=.assign x)(h:K (ev e x) s):OpS P o e s K:=
 OpS.pure fun n I w a he hs=>⟨a.eval x,ev e x,by simp [execOp,ho],he.ev x,h⟩
def apick(t:Bool)(x y:AV)(K:AV->Prop):Prop:=
 match x,y with
 | .v (.bool a),.v (.bool b)=>K (.v (.bool (if t then a else b)))
 | x,y=>if t then K x else K y
theorem apick_elim{t:Bool}{x y:AV}{K:AV->Prop}(h:apick t x y K):K (if t then x else y):=by
 unfold apick at h
 split at h
 ·cases t <;> simpa using h
 ·cases t <;> simpa using h
theorem OpS.pick{P:Program}{e:Env}{s:Hp}{K:AV->Hp->Prop}{o:Oper}(c x y:Operand)(ho:o.op=.pick c x y)(t:Bool)(hc:ev e c=.v (.bool t))(h:apick t (ev e x) (ev e y) (fun r=>K r s)):OpS P o e s K:=
 OpS.pure fun n I w a he hs=>by
  have h1:=he.ev c;rw [hc] at h1;have h2:=apick_elim h;refine ⟨if t then a.eval x else a.eval y,if t then ev e x else ev e y,by simp [execOp,ho,h1.of_v,asBool],?_,h2⟩
  cases t
  ·exact he.ev y
  ·exact he.ev x
theorem OpS.nilCheck{P:Program}{e:Env}{s:Hp}{K:AV->Hp->Prop}{o:Oper}(x:Operand)(ho:o.op=.nilCheck x)(h:(∃ a,ev e x=.v (.pointer (some a)))∨∃ u,ev e x=.rp u)(hk:K (ev e x) s):OpS P o e s K:=
 OpS.pure fun n I w a he hs=>by
  have h1:=he.ev x;refine ⟨a.eval x,ev e x,?_,h1,hk⟩
  rcases h with ⟨ad,h⟩ | ⟨u,h⟩ <;> rw [h] at h1
  ·simp [execOp,ho,h1.of_v]
  ·generalize hy:a.eval x=y at h1
   cases h1
   simp [execOp,ho,hy]
theorem run_aint{P:Program}{op:BinOp}{k:IntKind}{t:TypeId}{a b:Int}{K:AV->Prop}(h:aint op k a b K)(w:World):
  ∃ v,(binOp op t (.int k a) (.int k b)).run P w=.ok v w/\K (.v v):=by
 have hd:∀ (p q:Bool),p=q->(Value.bool p)=.bool q:=fun p q h=>by rw [h]
 cases op <;> simp only [aint] at h
 case add=>exact ⟨_,by simp [binOp,Op.intArith] <;> rfl,h⟩
 case sub=>exact ⟨_,by simp [binOp,Op.intArith] <;> rfl,h⟩
 case mul=>exact ⟨_,by simp [binOp,Op.intArith] <;> rfl,h⟩
 case quo=>exact ⟨_,by simp [binOp,Op.intDiv,h.1] <;> rfl,h.2⟩
 case rem=>exact ⟨_,by simp [binOp,Op.intDiv,h.1] <;> rfl,h.2⟩
 case and=>exact ⟨_,by simp [binOp,intBits_and] <;> rfl,h⟩
 case or=>exact ⟨_,by simp [binOp,intBits_or] <;> rfl,h⟩
 case xor=>exact ⟨_,by simp [binOp,intBits_xor] <;> rfl,h⟩
 case andNot=>exact ⟨_,by simp [binOp,intBits_andNot] <;> rfl,h⟩
 case eql=>exact ⟨_,by simp [binOp,Op.intCmp] <;> rfl,by rw [hd _ _ (show (a==b)=decide (a=b) by rw [Bool.eq_iff_iff];simp)];exact h⟩
 case neq=>exact ⟨_,by simp [binOp,Op.intCmp] <;> rfl,by rw [hd _ _ (show (a != b) = !decide (a=b) by rw [Bool.eq_iff_iff];simp)];exact h⟩
 case lss=>exact ⟨_,by simp [binOp,Op.intCmp] <;> rfl,h⟩
 case leq=>exact ⟨_,by simp [binOp,Op.intCmp] <;> rfl,h⟩
 case gtr=>exact ⟨_,by simp [binOp,Op.intCmp] <;> rfl,h⟩
 case geq=>exact ⟨_,by simp [binOp,Op.intCmp] <;> rfl,h⟩
theorem run_ashift{P:Program}{op:BinOp}{k k':IntKind}{t:TypeId}{a b:Int}{K:AV->Prop}(hop:op=.shl∨op=.shr)(h:ashift op k a b K)(w:World):
  ∃ v,(binOp op t (.int k a) (.int k' b)).run P w=.ok v w/\K (.v v):=by
 rcases hop with rfl | rfl <;> simp only [ashift] at h
 ·exact ⟨_,by simp [binOp,Op.shift,show ¬ b<0 by omega],h.2⟩
 ·exact ⟨_,by simp [binOp,Op.shift,show ¬ b<0 by omega],h.2⟩
theorem Wh{P:Program}{t:TypeId}(h:Yl P t=some true):∃ ms,P.underlying t=some (.interface ms):=by
 unfold Yl at h;split at h <;> simp_all
theorem run_equalIn_slice_nil{P:Program}{t el:TypeId}(h:P.underlying t=some (.slice el))(dep:Nat)(a:Option Addr)(n c l c1:Nat)(w:World):
  (Op.equalIn (dep+1) t (.slice a n c) (.slice none l c1)).run P w=.ok a.isNone w:=by
 cases a <;> simp [Op.equalIn,run_underlying h]
theorem Xh{P:Program}{t el:TypeId}(h:P.underlying t=some (.slice el))(a:Option Addr)(n c l c1:Nat)(w:World):
  (Op.equal t (.slice a n c) (.slice none l c1)).run P w=.ok a.isNone w:=run_equalIn_slice_nil h 9999 a n c l c1 w
theorem run_equalIn_iface_nil{P:Program}{t:TypeId}{ms:Array (String × TypeId)}(h:P.underlying t=some (.interface ms))(dep:Nat)(d:TypeId)(y:Value)(w:World):
  (Op.equalIn (dep+1) t (.iface d y) .nilIface).run P w=.ok false w:=by
 simp [Op.equalIn,run_underlying h]
theorem run_equal_iface_nil{P:Program}{t:TypeId}{ms:Array (String × TypeId)}(h:P.underlying t=some (.interface ms))(d:TypeId)(y:Value)(w:World):
  (Op.equal t (.iface d y) .nilIface).run P w=.ok false w:=run_equalIn_iface_nil h 9999 d y w
theorem run_equalIn_nil_nil{P:Program}{t:TypeId}{ms:Array (String × TypeId)}(h:P.underlying t=some (.interface ms))(dep:Nat)(w:World):
  (Op.equalIn (dep+1) t .nilIface .nilIface).run P w=.ok true w:=by
 simp [Op.equalIn,run_underlying h]
theorem run_equal_nil_nil{P:Program}{t:TypeId}{ms:Array (String × TypeId)}(h:P.underlying t=some (.interface ms))(w:World):
  (Op.equal t .nilIface .nilIface).run P w=.ok true w:=run_equalIn_nil_nil h 9999 w
theorem eqnum{P:Program}{t d:TypeId}{ms:Array (String × TypeId)}{i:TypeInfo}{k:IntKind}(hms:P.underlying t=some (.interface ms))(hinfo:P.info? d=some i)(hcomp:i.comparable=true)(hu:P.underlying d=some (.int k))(a b:Int)(w:World):
  (Op.equal t (.iface d (.int k a)) (.iface d (.int k b))).run P w=.ok (a==b) w:=by
 have:∀ q:Nat,(Op.equalIn (q+2) t (.iface d (.int k a)) (.iface d (.int k b))).run P w=.ok (a==b) w:=fun q=>by
  simp [Op.equalIn,run_underlying hms,typeInfo,hinfo,hcomp,run_underlying hu]
 exact this 9998
theorem run_abin{P:Program}{op:BinOp}{t:TypeId}{xo yo:Operand}{x y:AV}{K:AV->Prop}{I:Imm}{vx vy:Value}(h:Xd P op t xo yo x y K)(hx:RV I vx x)(hy:RV I vy y)(w:World)(hyo:isNilC yo=true->yo=.const .nilIface):
  ∃ v,(do eqGuard op t xo yo vx vy;binOp op t vx vy:Sem Value).run P w=.ok v w/\K (.v v):=by
 unfold Xd at h
 split at h
 ·rename_i k a k' b
  obtain rfl:=hx.of_v;obtain rfl:=hy.of_v
  split at h
  ·obtain ⟨v,h1,h2⟩:=run_ashift (P:=P) (t:=t) (k':=k') (.inl rfl) h w
   exact ⟨v,by simp [h1,eqGuard_at_int],h2⟩
  ·obtain ⟨v,h1,h2⟩:=run_ashift (P:=P) (t:=t) (k':=k') (.inr rfl) h w
   exact ⟨v,by simp [h1,eqGuard_at_int],h2⟩
  ·obtain ⟨rfl,h⟩:=h
   obtain ⟨v,h1,h2⟩:=run_aint (P:=P) (t:=t) h w;exact ⟨v,by simp [h1,eqGuard_at_int],h2⟩
 ·obtain rfl:=hx.of_v
  obtain rfl:=hy.of_v
  split at h
  ·exact ⟨_,by simp [eqGuard_at_bool,run_eql_bool w t _ _ h.1],h.2⟩
  ·exact ⟨_,by simp [eqGuard_at_bool,run_neq_bool w t _ _ h.1],h.2⟩
  ·exact h.elim
 ·rename_i a b
  obtain rfl:=hx.of_v;obtain rfl:=hy.of_v
  split at h
  ·exact ⟨_,by simp [eqGuard_at_string,binOp,Op.stringOp],h⟩
  ·exact ⟨_,by simp [eqGuard_at_string,binOp,Op.stringOp],h⟩
  ·exact ⟨_,by simp [eqGuard_at_string,binOp,Op.stringOp],h⟩
  ·exact ⟨_,by simp [eqGuard_at_string,binOp,Op.stringOp],h⟩
  ·have hb:=h.1
   have hm:IntKind.i64.max=9223372036854775807:=by decide
   have:((a.size:Int)+(b.size:Int))<=9223372036854775807:=by unfold big at hb;omega
   exact ⟨_,by simp [eqGuard_at_string,binOp,Op.stringOp,hm,this],h.2⟩
  ·exact h.elim
 ·rename_i l c1
  obtain rfl:=hy.of_v;have key:∀ b,anils P t x=some b->∃ a n c,vx=.slice a n c/\a.isNone=b/\∃ el,P.underlying t=some (.slice el):=by
   have hsl:∀ h:V2 P t=true,∃ el,P.underlying t=some (.slice el):=by
    intro h;unfold V2 at h
    split at h <;> simp_all
   intro b hb;unfold anils at hb
   split at hb
   ·obtain rfl:=hx.of_v
    split at hb
    ·exact ⟨_,_,_,rfl,by simpa using hb,hsl (by assumption)⟩
    ·simp at hb
   ·split at hb
    ·injection hb with hb;subst hb
     cases hx with
     | sl a n c k xs f hn hc hb hl ha hm hr =>
      obtain ⟨ad,rfl,_⟩:=ha (by simp)
      exact ⟨_,_,_,rfl,rfl,hsl (by assumption)⟩
    ·simp at hb
   ·simp at hb
  split at h
  ·rename_i b hb
   obtain ⟨a,n,c,rfl,rfl,el,hel⟩:=key _ hb
   cases a with
   | none=>exact ⟨_,by simp [eqGuard_at_slice,binOp,Xh hel] <;> rfl,h⟩
   | some a=>exact ⟨_,by simp [eqGuard_at_slice,binOp,Xh hel] <;> rfl,h⟩
  ·rename_i b hb
   obtain ⟨a,n,c,rfl,rfl,el,hel⟩:=key _ hb
   cases a with
   | none=>exact ⟨_,by simp [eqGuard_at_slice,binOp,Xh hel] <;> rfl,h⟩
   | some a=>exact ⟨_,by simp [eqGuard_at_slice,binOp,Xh hel] <;> rfl,h⟩
  ·exact h.elim
 ·obtain rfl:=hx.of_v
  obtain rfl:=hy.of_v;have hp:∀ h:isPtrT P t=true,P.underlying t=some (.pointer (P.pointee t)):=by
   intro h;unfold isPtrT at h;unfold Program.pointee
   split at h <;> simp_all
  split at h
  ·exact ⟨_,by simp [eqGuard_at_pointer,run_eql_pointer_nil w t _ (hp h.1)] <;> rfl,h.2⟩
  ·exact ⟨_,by simp [eqGuard_at_pointer,run_neq_pointer_nil w t _ (hp h.1)] <;> rfl,h.2⟩
  ·exact h.elim
 ·obtain rfl:=hy.of_v
  have key:∀ b,anil P t x=some b->∃ ms,P.underlying t=some (.interface ms)/\((b=true/\vx=.nilIface)∨(b=false/\∃ d y,vx=.iface d y)):=by
   intro b hb;unfold anil at hb
   split at hb
   ·obtain rfl:=hx.of_v
    split at hb
    ·obtain ⟨ms,hms⟩:=Wh (by assumption)
     exact ⟨ms,hms,.inl ⟨by simpa using hb.symm,rfl⟩⟩
    ·simp at hb
   ·obtain rfl:=hx.of_v
    split at hb
    ·obtain ⟨ms,hms⟩:=Wh (by assumption)
     exact ⟨ms,hms,.inr ⟨by simpa using hb.symm,_,_,rfl⟩⟩
    ·simp at hb
   ·split at hb
    ·obtain ⟨ms,hms⟩:=Wh (by assumption)
     cases hx with
     | ifc t' x' u hr=>exact ⟨ms,hms,.inr ⟨by simpa using hb.symm,_,_,rfl⟩⟩
    ·simp at hb
   ·simp at hb
  split at h
  ·rename_i b hc hb
   have hyc:=hyo hc;subst hyc;obtain ⟨ms,hms,⟨rfl,rfl⟩ | ⟨rfl,d,y,rfl⟩⟩:=key _ hb
   ·exact ⟨_,by simp [eqGuard_nil_constR,binOp,run_equal_nil_nil hms] <;> rfl,h⟩
   ·exact ⟨_,by simp [eqGuard_at_iface,binOp,run_equal_iface_nil hms] <;> rfl,h⟩
  ·rename_i b hc hb
   have hyc:=hyo hc;subst hyc;obtain ⟨ms,hms,⟨rfl,rfl⟩ | ⟨rfl,d,y,rfl⟩⟩:=key _ hb
   ·exact ⟨_,by simp [eqGuard_nil_constR,binOp,run_equal_nil_nil hms] <;> rfl,h⟩
   ·exact ⟨_,by simp [eqGuard_at_iface,binOp,run_equal_iface_nil hms] <;> rfl,h⟩
  ·exact h.elim
 ·obtain rfl:=hy.of_v
  have key:∀ b,anilm P t x=some b->∃ m,vx=.map m/\b=m.isNone/\(Op.equal t (.map m) (.map none)).run P w=.ok b w:=by
   have run:∀ (m:Option Nat) (k el:TypeId),P.underlying t=some (.map k el)->(Op.equal t (.map m) (.map none)).run P w=.ok m.isNone w:=by
    intro m k el hu;have:∀ d:Nat,(Op.equalIn (d+1) t (.map m) (.map none)).run P w=.ok m.isNone w:=fun d=>by
     cases m <;> simp [Op.equalIn,run_underlying hu]
    exact this 9999
   intro b hb;unfold anilm at hb
   split at hb
   ·obtain rfl:=hx.of_v
    split at hb
    ·rename_i k el hu
     injection hb with hb;subst hb
     exact ⟨_,rfl,rfl,run _ _ _ hu⟩
    ·simp at hb
   ·split at hb
    ·rename_i k el hu
     injection hb with hb;subst hb
     cases hx with
     | mp bb kk es c cl hI hl hk hr ha=>exact ⟨_,rfl,rfl,run _ _ _ hu⟩
    ·simp at hb
   ·simp at hb
  split at h
  ·rename_i b hb
   obtain ⟨m,rfl,h1,h2⟩:=key _ hb;exact ⟨_,by simp [eqGuard_at_map,binOp,h2] <;> rfl,h⟩
  ·rename_i b hb
   obtain ⟨m,rfl,h1,h2⟩:=key _ hb;exact ⟨_,by simp [eqGuard_at_map,binOp,h2] <;> rfl,h⟩
  ·exact h.elim
 ·rename_i d y
  obtain rfl:=hy.of_v;have key:∀ b,aifeq P t x d y=some b->(vx=.nilIface∨∃ d' x',vx=.iface d' x')/\(Op.equal t vx (.iface d y)).run P w=.ok b w:=by
   have unlike:∀ (d':TypeId) (x':Value),Yl P t=some true->d'≠d->(Op.equal t (.iface d' x') (.iface d y)).run P w=.ok false w:=by
    intro d' x' hi hne;obtain ⟨ms,hms⟩:=Wh hi;have:∀ q:Nat,(Op.equalIn (q+1) t (.iface d' x') (.iface d y)).run P w=.ok false w:=fun q=>by
     simp [Op.equalIn,run_underlying hms,hne]
    exact this 9999
   intro b hb;unfold aifeq at hb
   split at hb
   ·obtain rfl:=hx.of_v
    split at hb
    ·rename_i hi
     split at hb
     ·rename_i hdd
      subst hdd
      split at hb
      ·rename_i hck
       obtain ⟨hc,rfl⟩:=hck;injection hb with hb;subst hb
       obtain ⟨ms,hms⟩:=Wh hi;unfold cmpT at hc
       split at hc
       ·rename_i i hinfo
        split at hc
        ·rename_i hcomp
         refine ⟨.inr ⟨_,_,rfl⟩,?_⟩;exact eqnum hms hinfo hcomp (intT_eq hc) _ _ w
        ·simp at hc
       ·simp at hc
      ·simp at hb
     ·rename_i hdd
      injection hb with hb;subst hb
      exact ⟨.inr ⟨_,_,rfl⟩,unlike _ _ hi hdd⟩
    ·simp at hb
   ·obtain rfl:=hx.of_v
    split at hb
    ·rename_i hi
     injection hb with hb;subst hb
     exact ⟨.inr ⟨_,_,rfl⟩,unlike _ _ hi.1 hi.2⟩
    ·simp at hb
   ·split at hb
    ·rename_i hi
     injection hb with hb;subst hb
     cases hx with
     | ifc t' x' u hr=>exact ⟨.inr ⟨_,_,rfl⟩,unlike _ _ hi.1 hi.2⟩
    ·simp at hb
   ·obtain rfl:=hx.of_v
    split at hb
    ·rename_i hi
     injection hb with hb;subst hb
     obtain ⟨ms,hms⟩:=Wh hi;refine ⟨.inl rfl,?_⟩;have:∀ q:Nat,(Op.equalIn (q+1) t .nilIface (.iface d y)).run P w=.ok false w:=fun q=>by simp [Op.equalIn,run_underlying hms]
     exact this 9999
    ·simp at hb
   ·simp at hb
  split at h
  ·rename_i b hb
   obtain ⟨h1 | ⟨d',x',h1⟩,h2⟩:=key _ hb
   ·subst h1;exact ⟨_,by simp [eqGuard_nil_iface,binOp,h2] <;> rfl,h⟩
   ·subst h1;exact ⟨_,by simp [eqGuard_at_iface,binOp,h2] <;> rfl,h⟩
  ·rename_i b hb
   obtain ⟨h1 | ⟨d',x',h1⟩,h2⟩:=key _ hb
   ·subst h1;exact ⟨_,by simp [eqGuard_nil_iface,binOp,h2] <;> rfl,h⟩
   ·subst h1;exact ⟨_,by simp [eqGuard_at_iface,binOp,h2] <;> rfl,h⟩
  ·exact h.elim
 ·have hax:=hx
  have hay:=hy
  cases hx with
  | agg cx _ _ _ =>
   cases hy with
   | agg cy _ _ _ =>
    split at h
    ·rename_i b hb
     obtain ⟨h1,h2⟩:=run_aarr hb hax hay w;exact ⟨_,by simp [run_eqGuard_agg w _ _ _ _ _ _ h1,run_eql_struct,h2] <;> rfl,h⟩
    ·rename_i b hb
     obtain ⟨h1,h2⟩:=run_aarr hb hax hay w;exact ⟨_,by simp [run_eqGuard_agg w _ _ _ _ _ _ h1,run_neq_struct,h2] <;> rfl,h⟩
    ·exact h.elim
 ·exact h.elim
theorem OpS.binOp{P:Program}{e:Env}{s:Hp}{K:AV->Hp->Prop}{o:Oper}(op:BinOp)(t:TypeId)(x y:Operand)(yt:TypeId)(ho:o.op=.binOp op t x y yt)(h:Xd P op t x y (ev e x) (ev e y) (fun r=>K r s)):OpS P o e s K:=
 OpS.pure fun n I w a he hs=>by
  obtain ⟨v,h1,h2⟩:=run_abin h (he.ev x) (he.ev y) w (fun hy=>by
   unfold isNilC at hy
   split at hy <;> simp_all)
  exact ⟨v,.v v,by simp only [execOp,ho];rw [Sem.run_bind,h1];rfl,.v v,h2⟩
theorem CellsRel.cell?{I:Imm}{w:World}{b:Nat}{e:TypeId}{cs:List AV}{size:Nat}{c:Array Value}(h:CellsRel I w b e cs size c){j:Nat}{u:AV}(hj:cs[j]? = some u):
  ∃ x,w.cell? ⟨b,j,none⟩=some x/\RV I x u:=by
 obtain ⟨x,h1,h2⟩:=h.cell j u hj;exact ⟨x,by rw [cell_of_row w b j c e (0,0) h.block];exact h1,h2⟩
theorem Imm.cell_world{I:Imm}{s:Hp}{w:World}(h:Rel I s w){a:Addr}{x:Value}(q:I.cell a=some x):w.cell? a=some x:=by
 unfold Imm.cell at q;unfold World.cell?
 split at q
 ·simp at q
 ·rename_i hs
  cases hb:I a.block with
  | none=>rw [hb] at q;simp at q
  | some o =>
   rw [hb] at q;rw [h.imm _ _ hb]
   cases o <;> simp_all
def Xc(P:Program)(t:TypeId)(p:AV)(s:Hp)(K:AV->Prop):Prop:=
 match p with
 | .rp x =>
  match x with
  | .agg us=>Yu P t=some (true,us.length)/\K x
  | x=>Yu P t=some (false,1)/\K x
 | .v (.pointer (some ⟨b,off,none⟩)) =>
  match s.get b with
  | some (.cells e cs size) =>
   match Yu P t with
   | some (true,n)=>off+n<=cs.length/\K (.agg ((cs.drop off).take n))
   | some (false,_)=>match cs[off]? with
    | some u=>K u
    | none=>False
   | none=>False
  | _=>False
 | _=>False
def W6(p:AV)(s:Hp):Option Value:=
 match p with
 | .v (.pointer (some ⟨b,off,none⟩))=>match s.get b with
  | none=>(gndL.find? fun q=>q.1.block==b&&q.1.off==off&&q.1.spot.isNone).map (·.2)
  | some _=>none
 | _=>none
def Xg(P:Program)(t:TypeId)(p:AV)(s:Hp)(K:AV->Prop):Prop:=
 match W6 p s with
 | some x=>Yu P t=some (false,1)/\K (.v x)
 | none=>Xc P t p s K
theorem aloadG_of{P:Program}{t:TypeId}{p:AV}{s:Hp}{K:AV->Prop}(h:Xc P t p s K):Xg P t p s K:=by
 unfold Xg
 split
 ·rename_i x hx
  exfalso;unfold W6 at hx
  split at hx
  ·split at hx
   ·rename_i hn
    unfold Xc at h;simp only [hn] at h
   ·simp at hx
  ·simp at hx
 ·exact h
theorem run_load_cell{P:Program}{t:TypeId}{n:Nat}(h:Yu P t=some (false,n)){w:World}{a:Addr}{x:Value}(hx:w.cell? a=some x):(loadVar t a).run P w=.ok x w:=by
 simp [loadVar,run_isAgg h,hx]
theorem run_load_agg{P:Program}{t:TypeId}{n:Nat}(h:Yu P t=some (true,n)){w:World}{a:Addr}(xs:List Value)(hl:xs.length=n)(hx:∀ (j:Nat) (v:Value),xs[j]? = some v->w.cell? (a.add j)=some v):
  (loadVar t a).run P w=.ok (.agg xs.toArray) w:=by
 subst hl;simp [loadVar,run_isAgg h,Ya h,run_loadCells_list w a xs hx]
theorem add_none(b o j:Nat):(⟨b,o,none⟩:Addr).add j=⟨b,o+j,none⟩:=by
 unfold Addr.add;split
 ·rename_i h;subst h;rfl
 ·rfl
theorem add_spot{a:Addr}(h:a.spot=none)(j:Nat):a.add j=⟨a.block,a.off+j,none⟩:=by
 obtain ⟨b,o,sp⟩:=a;simp only at h;subst h;exact add_none b o j
theorem V3{I:Imm}{us:List AV}{f:Nat->Value->Prop}(h:∀ (j:Nat) (u:AV),us[j]? = some u->∃ x,f j x/\RV I x u):
  ∃ xs:List Value,xs.length=us.length/\(∀ (j:Nat) (x:Value),xs[j]? = some x->f j x)/\(∀ (j:Nat) (x:Value) (u:AV),xs[j]? = some x->us[j]? = some u->RV I x u):=by
 induction us generalizing f with
 | nil=>exact ⟨[],rfl,fun j x h=>by simp at h,fun j x u h=>by simp at h⟩
 | cons u us ih =>
  obtain ⟨x,h1,h2⟩:=h 0 u rfl;obtain ⟨xs,hl,hf,hr⟩:=ih (f:=fun j=>f (j+1)) (fun j u hj=>h (j+1) u hj)
  refine ⟨x::xs,by simp [hl],fun j y hj=>?_,fun j y v hj hv=>?_⟩
  ·cases j with
   | zero=>simp at hj;subst hj;exact h1
   | succ j=>exact hf j y hj
  ·cases j with
   | zero=>simp at hj hv;subst hj;subst hv;exact h2
   | succ j=>exact hr j y v hj hv
theorem RV.agg_list{I:Imm}{xs:List Value}{us:List AV}(hl:xs.length=us.length)(h:∀ (j:Nat) (x:Value) (u:AV),xs[j]? = some x->us[j]? = some u->RV I x u):RV I (.agg xs.toArray) (.agg us):=by
 refine .agg _ _ (by simpa using hl) fun j u hj=>?_
 have hj':j<xs.length:=by rw [hl];exact (List.getElem?_eq_some_iff.1 hj).1
 have:xs.toArray.getD j undef=xs[j]:=by simp [hj']
 rw [this];exact h j _ u (by simp [hj']) hj
theorem run_aload{P:Program}{t:TypeId}{p:AV}{s:Hp}{K:AV->Prop}{I:Imm}{w:World}{x:Value}(h:Xc P t p s K)(hs:Rel I s w)(hx:RV I x p):
  ∃ ad v r,x=.pointer (some ad)/\(loadVar t ad).run P w=.ok v w/\RV I v r/\K r:=by
 unfold Xc at h
 split at h
 ·cases hx with
  | rp a y f hsp hm hr =>
   split at h
   ·rename_i us
    obtain ⟨xs,hl,hf,hr'⟩:=V3 (I:=I) (us:=us) (f:=fun j x=>I.cell ⟨a.block,a.off+j,none⟩=some x) (fun j u hj=>⟨f j,hm j u hj,hr j u hj⟩)
    refine ⟨a,_,_,rfl,run_load_agg h.1 xs hl (fun j v hj=>?_),RV.agg_list hl hr',h.2⟩
    rw [add_spot hsp];exact Imm.cell_world hs (hf j v hj)
   ·rename_i y _ hna
    have hc:cellsOf y=[y]:=by
     unfold cellsOf;split
     ·rename_i us;exact (hna us rfl).elim
     ·rfl
    refine ⟨a,f 0,_,rfl,run_load_cell h.1 ?_,hr 0 y (by rw [hc];rfl),h.2⟩
    have:=hm 0 y (by rw [hc];rfl)
    have:=Imm.cell_world hs this;obtain ⟨b,o,sp⟩:=a
    simp only at hsp;subst hsp;simpa using this
 ·rename_i b off
  obtain rfl:=hx.of_v
  split at h
  ·rename_i e cs size hg
   obtain ⟨c,hc⟩:=hs.obj _ _ (Hp.get_mem hg)
   split at h
   ·rename_i n hn
    obtain ⟨xs,hl,hf,hr'⟩:=V3 (I:=I) (us:=(cs.drop off).take n) (f:=fun j x=>w.cell? ⟨b,off+j,none⟩=some x) (fun j u hj=>by
     rw [List.getElem?_take] at hj
     split at hj
     ·rw [List.getElem?_drop] at hj;exact hc.cell? hj
     ·simp at hj)
    refine ⟨_,_,_,rfl,run_load_agg hn xs (by rw [hl];simp;omega) (fun j v hj=>?_),RV.agg_list hl hr',h.2⟩
    rw [add_none];exact hf j v hj
   ·rename_i hn
    split at h
    ·rename_i u hu
     obtain ⟨x,h1,h2⟩:=hc.cell? hu;exact ⟨_,x,u,rfl,run_load_cell hn h1,h2,h⟩
    ·exact h.elim
   ·exact h.elim
  ·exact h.elim
 ·exact h.elim
theorem run_aloadG{P:Program}{t:TypeId}{p:AV}{s:Hp}{K:AV->Prop}{I:Imm}{w:World}{x:Value}(h:Xg P t p s K)(hs:Rel I s w)(hx:RV I x p):
  ∃ ad v r,x=.pointer (some ad)/\(loadVar t ad).run P w=.ok v w/\RV I v r/\K r:=by
 unfold Xg at h
 split at h
 ·rename_i y hy
  unfold W6 at hy
  split at hy
  ·rename_i b off
   obtain rfl:=hx.of_v
   split at hy
   ·obtain ⟨q,h1,rfl⟩:=Option.map_eq_some_iff.1 hy
    have hm:=List.mem_of_find?_eq_some h1;have h2:=List.find?_some h1;obtain ⟨⟨qb,qo,qs⟩,qv⟩:=q
    simp only [Bool.and_eq_true,beq_iff_eq,Option.isNone_iff_eq_none] at h2;obtain ⟨⟨rfl,rfl⟩,rfl⟩:=h2;exact ⟨_,_,_,rfl,run_load_cell h.1 (Imm.cell_world hs (hs.gnd _ _ hm)),.v _,h.2⟩
   ·simp at hy
  ·simp at hy
 ·exact run_aload h hs hx
theorem OpS.load{P:Program}{e:Env}{s:Hp}{K:AV->Hp->Prop}{o:Oper}(t:TypeId)(x:Operand)(ho:o.op=.load t x)(h:Xg P t (ev e x) s (fun r=>K r s)):OpS P o e s K:=
 OpS.pure fun n I w a he hs=>by
  obtain ⟨ad,v,r,h1,h2,h3,h4⟩:=run_aloadG h hs (he.ev x);exact ⟨v,r,by simp [execOp,ho,Instr.loadAt,h1,Instr.sureAddr,h2],h3,h4⟩
def astore(P:Program)(t:TypeId)(p x:AV)(s:Hp)(K:Hp->Prop):Prop:=
 match p with
 | .v (.pointer (some ⟨b,off,none⟩)) =>
  match s.get b with
  | some (.cells e cs size) =>
   (Yu P t).map (·.2)=some (cellsOf x).length/\off+(cellsOf x).length<=cs.length/\(cellsOf x).all AV.one=true /\
    K (s.set b (.cells e (splice cs off (cellsOf x)) size))
  | _=>False
 | _=>False
theorem getElem?_splice{α:Type}(l:List α)(off:Nat)(cs:List α)(h:off+cs.length<=l.length)(j:Nat):
  (splice l off cs)[j]? = if off<=j/\j<off+cs.length then cs[j-off]? else l[j]?:=by
 unfold splice;rw [List.getElem?_append,List.length_take,Nat.min_eq_left (by omega)]
 by_cases h1:j<off
 ·rw [if_pos h1,if_neg (by omega),List.getElem?_take,if_pos h1]
 ·rw [if_neg h1,List.getElem?_append]
  by_cases h2:j-off<cs.length
  ·rw [if_pos h2,if_pos (by omega)]
  ·rw [if_neg h2,if_neg (by omega),List.getElem?_drop]
   congr 1;omega
theorem CellsRel.write{I:Imm}{w:World}{b:Nat}{e:TypeId}{cs:List AV}{size:Nat}{c:Array Value}(h:CellsRel I w b e cs size c)(off:Nat)(xs:List Value)(us:List AV)(hl:xs.length=us.length)(hr:∀ (j:Nat) (x:Value) (u:AV),xs[j]? = some x->us[j]? = some u->RV I x u)(hfit:off<=cs.length)(hsize:off+us.length<=size):
  CellsRel I (w.setRow b (splice c.toList off xs).toArray) b e (if off+us.length<=cs.length then splice cs off us else cs.take off++us) size (splice c.toList off xs).toArray:=by
 have hcl:c.toList.length=size:=by simpa using h.full
 refine ⟨setRow_heap w b c _ e _ h.block,by rw [List.size_toArray,length_splice _ _ _ (by omega)];exact hcl,?_,fun j u hj=>?_⟩
 ·split
  ·rw [length_splice _ _ _ (by omega)];exact h.le
  ·simp;have:=h.le;omega
 ·have hget:(splice c.toList off xs).toArray[j]? = (splice c.toList off xs)[j]?:=by simp
  rw [hget,getElem?_splice _ _ _ (by omega)]
  have hj2:(off<=j/\j<off+us.length/\us[j-off]? = some u)∨(¬ (off<=j/\j<off+us.length)/\cs[j]? = some u):=by
   split at hj
   ·rw [getElem?_splice _ _ _ (by omega)] at hj
    split at hj
    ·exact .inl ⟨by omega,by omega,hj⟩
    ·exact .inr ⟨by assumption,hj⟩
   ·rw [List.getElem?_append] at hj
    split at hj
    ·rename_i h1
     rw [List.length_take,Nat.min_eq_left hfit] at h1;rw [List.getElem?_take,if_pos h1] at hj;exact .inr ⟨by omega,hj⟩
    ·rename_i h1
     rw [List.length_take,Nat.min_eq_left hfit] at h1 hj;have:=(List.getElem?_eq_some_iff.1 hj).1;exact .inl ⟨by omega,by omega,hj⟩
  rcases hj2 with ⟨h1,h2,h3⟩ | ⟨h1,h2⟩
  ·rw [if_pos ⟨h1,by omega⟩]
   have hx:(j-off)<xs.length:=by omega
   exact ⟨xs[j-off],by simp [hx],hr _ _ _ (by simp [hx]) h3⟩
  ·rw [if_neg (by omega)]
   obtain ⟨x,hx1,hx2⟩:=h.cell j u h2;exact ⟨x,by simpa using hx1,hx2⟩
theorem setRow_ext{I:Imm}{s:Hp}{w:World}{b:Nat}(hb:b∈s.keys)(o:AObj)(c:Array Value):Ext I s w I (s.set b o) (w.setRow b c):=
 Ext.turn I s hb o rfl rfl rfl (by simp) (fun k hk=>setRow_other w b k c hk)
theorem setRow_rel{I:Imm}{s:Hp}{w:World}(h:Rel I s w){b:Nat}(hb:b∈s.keys)(o:AObj)(c:Array Value)(ho:ObjRel I (w.setRow b c) b o):Rel I (s.set b o) (w.setRow b c):=
 h.turn hb o ho (fun k hk=>setRow_other w b k c hk)
theorem run_astore{P:Program}{t:TypeId}{p x:AV}{s:Hp}{K:Hp->Prop}{I:Imm}{w:World}{vp vx:Value}(h:astore P t p x s K)(hs:Rel I s w)(hp:RV I vp p)(hx:RV I vx x):
  ∃ ad w' s',vp=.pointer (some ad)/\(storeVar t ad vx).run P w=.ok () w'/\Rel I s' w'/\Ext I s w I s' w'/\K s':=by
 unfold astore at h
 split at h
 ·rename_i b off
  obtain rfl:=hp.of_v
  split at h
  ·rename_i e cs size hg
   obtain ⟨h1,h2,h3,h4⟩:=h
   obtain ⟨c,hc⟩:=hs.obj _ _ (Hp.get_mem hg);have hk:=Hp.get_key hg;obtain ⟨hsz,hcell⟩:=hx.cells h3;obtain ⟨⟨bb,nn⟩,hagg,hnn⟩:=Option.map_eq_some_iff.1 h1;simp only at hnn;subst hnn;have hone:∀ v∈vx.cells.toList,v.oneCell'=true:=by
    intro v hv;obtain ⟨j,hj,rfl⟩:=List.getElem_of_mem hv;have hj':j<(cellsOf x).length:=by rw [<- hsz];simpa using hj
    obtain ⟨z,hz1,hz2,hz3⟩:=hcell j _ (List.getElem?_eq_getElem hj');have:vx.cells.toList[j]=z:=by
     have:vx.cells[j]? = some (vx.cells.toList[j]):=by simp
     rw [this] at hz1;injection hz1
    rw [this];exact hz3
   have hlen:vx.cells.toList.length=(cellsOf x).length:=by simpa using hsz
   have hw:=hc.write off vx.cells.toList (cellsOf x) hlen (fun j y u hj hu=>by
    obtain ⟨z,hz1,hz2,_⟩:=hcell j u hu;have:vx.cells[j]? = some y:=by simpa using hj
    rw [hz1] at this;injection this with this;subst this;exact hz2) (by omega) (by have:=hc.le;omega)
   rw [if_pos h2] at hw;have hrun:=run_storeCells_at P b off e vx.cells.toList 0 c w hc.block (by have h5:=hc.le;have h6:=hc.full;omega) hone
   refine ⟨_,_,_,rfl,?_,setRow_rel hs hk (.cells e (splice cs off (cellsOf x)) size) _ ⟨_,hw⟩,setRow_ext hk _ _,h4⟩;simp only [Nat.add_zero] at hrun;simp only [storeVar,Sem.run_bind,Ya hagg,Result.andThen_ok,hsz,ne_eq,not_true_eq_false,if_false];simp only [splice,<- List.append_assoc];exact hrun
  ·exact h.elim
 ·exact h.elim
theorem OpS.store{P:Program}{e:Env}{s:Hp}{K:AV->Hp->Prop}{o:Oper}(t:TypeId)(x y:Operand)(ho:o.op=.store t x y)(h:astore P t (ev e x) (ev e y) s (fun s'=>K (.v undef) s')):OpS P o e s K:=
 OpS.skip fun n I w a he hs=>by
  obtain ⟨ad,w',s',h1,h2,h3,h4,h5⟩:=run_astore h hs (he.ev x) (he.ev y);exact ⟨s',I,w',by simp [execOp,ho,Instr.storeAt,h1,Instr.sureAddr,h2],h3,h4,h5⟩
def abox(t:TypeId)(x:AV)(s:Hp)(K:AV->Hp->Prop):Prop:=
 (cellsOf x).all AV.one=true/\∀ b,b∉s.keys->K (.v (.pointer (some ⟨b,0,none⟩))) ((b,.cells t (cellsOf x) (cellsOf x).length)::s)
theorem Xz{I:Imm}{w:World}{t:TypeId}{us:List AV}{c:Array Value}(hl:us.length<=c.size)(h:∀ (j:Nat) (u:AV),us[j]? = some u->∃ x:Value,c[j]? = some x/\RV I x u):
  ObjRel I (w.alloc (.cells c t)) w.heap.size (.cells t us c.size):=⟨c,heap_alloc_new w _,rfl,hl,h⟩
theorem OpS.box{P:Program}{e:Env}{s:Hp}{K:AV->Hp->Prop}{o:Oper}(t:TypeId)(x:Operand)(ho:o.op=.box t x)(h:abox t (ev e x) s K):OpS P o e s K:=
 OpS.run fun n I w a he hs=>by
  obtain ⟨hone,hk⟩:=h
  obtain ⟨hsz,hcell⟩:=(he.ev x).cells hone;refine ⟨_,_,_,I,w.alloc (.cells (a.eval x).cells t),?_,.v _,?_,Ext.alloc I s w _ _,hk w.heap.size hs.fresh_key⟩
  ·simp [execOp,ho,Instr.box,newVar,newRow]
  ·rw [<- hsz]
   refine hs.alloc _ _ (Xz (by omega) fun j u hj=>?_)
   obtain ⟨z,h1,h2,_⟩:=hcell j u hj;exact ⟨z,h1,h2⟩
def aalloc(P:Program)(t:TypeId)(s:Hp)(K:AV->Hp->Prop):Prop:=
 match Xp P t with
 | some z=>∀ b,b∉s.keys->K (.v (.pointer (some ⟨b,0,none⟩))) ((b,.cells t (z.cells.toList.map .v) z.cells.size)::s)
 | none=>False
theorem OpS.alloc{P:Program}{e:Env}{s:Hp}{K:AV->Hp->Prop}{o:Oper}(t:TypeId)(ho:o.op=.alloc t)(h:aalloc P t s K):OpS P o e s K:=
 OpS.run fun n I w a he hs=>by
  unfold aalloc at h
  split at h
  ·rename_i z hz
   obtain ⟨i,hi,hz'⟩:=Option.bind_eq_some_iff.1 hz;refine ⟨_,_,_,I,w.alloc (.cells z.cells t),?_,.v _,hs.alloc _ _ (Xz (us:=z.cells.toList.map .v) (by simp) fun j u hj=>?_),Ext.alloc I s w _ _,h w.heap.size hs.fresh_key⟩
   ·simp [execOp,ho,Instr.alloc,zeroValue,typeInfo,hi,hz',newVar,newRow]
   ·rw [List.getElem?_map] at hj
    obtain ⟨y,hy,rfl⟩:=Option.map_eq_some_iff.1 hj;exact ⟨y,by simpa using hy,.v y⟩
  ·exact h.elim
def apart(us:List AV)(off:Nat)(agg:Bool)(n:Nat)(K:AV->Prop):Prop:=
 match agg with
 | true=>off+n<=us.length/\K (.agg ((us.drop off).take n))
 | false=>match us[off]? with
  | some u=>K u
  | none=>False
theorem cellsOf_one{u:AV}(h:u.isAgg=false):cellsOf u=[u]:=by
 cases u <;> simp_all [AV.isAgg,cellsOf]
def rpart(us:List AV)(off:Nat)(agg:Bool)(n:Nat)(K:AV->Prop):Prop:=
 match agg with
 | true=>off+n<=us.length/\K (.rp (.agg ((us.drop off).take n)))
 | false=>match us[off]? with
  | some u=>u.isAgg=false/\K (.rp u)
  | none=>False
theorem rpart_elim{us:List AV}{off:Nat}{agg:Bool}{n:Nat}{K:AV->Prop}{I:Imm}{a:Addr}(h:rpart us off agg n K)(hr:RV I (.pointer (some a)) (.rp (.agg us))):
  ∃ r,RV I (.pointer (some ⟨a.block,a.off+off,none⟩)) r/\K r:=by
 cases hr with
 | rp a x f hs hm hr =>
  unfold rpart at h
  cases agg with
  | true =>
   refine ⟨_,.rp _ _ (fun j=>f (off+j)) rfl (fun j u hj=>?_) (fun j u hj=>?_),h.2⟩
   ·simp only [cellsOf] at hj
    rw [List.getElem?_take] at hj
    split at hj
    ·rw [List.getElem?_drop] at hj
     have:=hm _ _ hj;simpa [Nat.add_assoc] using this
    ·simp at hj
   ·simp only [cellsOf] at hj
    rw [List.getElem?_take] at hj
    split at hj
    ·rw [List.getElem?_drop] at hj
     exact hr _ _ hj
    ·simp at hj
  | false =>
   simp only at h
   split at h
   ·rename_i u hu
    refine ⟨_,.rp _ _ (fun j=>f (off+j)) rfl (fun j y hj=>?_) (fun j y hj=>?_),h.2⟩
    ·rw [cellsOf_one h.1] at hj
     cases j with
     | zero=>simp at hj;subst hj;simpa using hm _ _ hu
     | succ j=>simp at hj
    ·rw [cellsOf_one h.1] at hj
     cases j with
     | zero=>simp at hj;subst hj;exact hr _ _ hu
     | succ j=>simp at hj
   ·exact h.elim
theorem fieldT_eq{P:Program}{t:TypeId}{f off n:Nat}{b:Bool}(h:fieldT P t f=some (off,b,n)):
  ∃ fs fl,P.underlying t=some (.struct fs)/\fs[f]? = some fl/\Yu P fl.type=some (b,n)/\fl.offset=off/\n≠0:=by
 unfold fieldT at h
 split at h
 ·rename_i fs hu
  split at h
  ·rename_i fl hf
   split at h
   ·simp at h
   ·rename_i b' n' ha
    simp only [Option.some.injEq,Prod.mk.injEq] at h;obtain ⟨rfl,rfl,rfl⟩:=h
    exact ⟨fs,fl,hu,hf,ha,rfl,by omega⟩
   ·simp at h
  ·simp at h
 ·simp at h
def Yb(P:Program)(t:TypeId)(x:AV)(f:Nat)(K:AV->Prop):Prop:=
 match fieldT P t f with
 | some (off,b,n) =>
  match x with
  | .v (.pointer (some ⟨bl,o,none⟩))=>K (.v (.pointer (some ⟨bl,o+off,none⟩)))
  | .rp (.agg us)=>rpart us off b n K
  | _=>False
 | none=>False
theorem OpS.fieldAddr{P:Program}{e:Env}{s:Hp}{K:AV->Hp->Prop}{o:Oper}(t:TypeId)(x:Operand)(f:Nat)(ho:o.op=.fieldAddr t x f)(h:Yb P t (ev e x) f (fun r=>K r s)):OpS P o e s K:=
 OpS.pure fun n I w a he hs=>by
  unfold Yb at h
  split at h
  ·rename_i off b m hf
   obtain ⟨fs,fl,h1,h2,h3,h4,h5⟩:=fieldT_eq hf;have h1x:=he.ev x
   split at h
   ·rename_i bl ofs hx
    rw [hx] at h1x;refine ⟨_,_,?_,.v _,h⟩;simp [execOp,ho,Instr.fieldAt,run_underlying h1,h2,h1x.of_v,Instr.sureAddr,fieldPlace,Ya h3,h5,h4,add_none]
   ·rename_i us hx
    rw [hx] at h1x;generalize hy:a.eval x=y at h1x
    cases h1x with
    | rp ad z g hsp hm hr =>
     obtain ⟨r,hr1,hr2⟩:=rpart_elim h (.rp ad _ g hsp hm hr);refine ⟨_,r,?_,hr1,hr2⟩;simp [execOp,ho,Instr.fieldAt,run_underlying h1,h2,hy,Instr.sureAddr,fieldPlace,Ya h3,h5,h4,add_spot hsp]
   ·exact h.elim
  ·exact h.elim
theorem run_part{P:Program}{t:TypeId}{b:Bool}{n:Nat}(h:Yu P t=some (b,n)){cs:Array Value}{us:List AV}{off:Nat}{K:AV->Prop}{I:Imm}(hl:cs.size=us.length)(hr:∀ (j:Nat) (u:AV),us[j]? = some u->RV I (cs.getD j undef) u)(hk:apart us off b n K)(w:World):∃ v r,(part t cs off).run P w=.ok v w/\RV I v r/\K r:=by
 unfold apart at hk
 cases b with
 | true =>
  refine ⟨.agg (cs.extract off (off+n)),_,by simp [part,run_isAgg h,Ya h],.agg _ _ ?_ fun j u hj=>?_,hk.2⟩
  ·simp;omega
  ·rw [List.getElem?_take] at hj
   split at hj
   ·rename_i hjn
    rw [List.getElem?_drop] at hj;have:=hr _ _ hj;have hlt:off+j<cs.size:=by rw [hl];exact (List.getElem?_eq_some_iff.1 hj).1
    have e1:(cs.extract off (off+n)).getD j undef=cs.getD (off+j) undef:=by
     simp only [Array.getD_eq_getD_getElem?,Array.getElem?_extract];rw [if_pos (by omega)]
    rw [e1];exact this
   ·simp at hj
 | false =>
  simp only at hk
  split at hk
  ·rename_i u hu
   have hlt:off<cs.size:=by rw [hl];exact (List.getElem?_eq_some_iff.1 hu).1
   have hg:cs[off]? = some (cs.getD off undef):=by simp [hlt]
   exact ⟨cs.getD off undef,u,by simp only [part,Sem.run_bind,run_isAgg h,Result.andThen_ok,Bool.false_eq_true,if_false,hg];rfl,hr _ _ hu,hk⟩
  ·exact hk.elim
def afield(P:Program)(t:TypeId)(x:AV)(f:Nat)(K:AV->Prop):Prop:=
 match fieldT P t f with
 | some (off,b,n) =>
  match x with
  | .agg us=>apart us off b n K
  | _=>False
 | none=>False
theorem OpS.field{P:Program}{e:Env}{s:Hp}{K:AV->Hp->Prop}{o:Oper}(t:TypeId)(x:Operand)(f:Nat)(ho:o.op=.field t x f)(h:afield P t (ev e x) f (fun r=>K r s)):OpS P o e s K:=
 OpS.pure fun n I w a he hs=>by
  unfold afield at h
  split at h
  ·rename_i off b m hf
   obtain ⟨fs,fl,h1,h2,h3,h4,h5⟩:=fieldT_eq hf;have h1x:=he.ev x
   split at h
   ·rename_i us hx
    rw [hx] at h1x;generalize hy:a.eval x=y at h1x
    cases h1x with
    | agg cs us hl hr =>
     subst h4;obtain ⟨v,r,q1,q2,q3⟩:=run_part h3 hl hr h w;exact ⟨v,r,by simp [execOp,ho,Instr.field,run_underlying h1,h2,hy,asAgg,q1],q2,q3⟩
   ·exact h.elim
  ·exact h.elim
def aindexAddr(P:Program)(t:TypeId)(x i:AV)(K:AV->Prop):Prop:=
 match i with
 | .v (.int _ i) =>
  match Xn P t with
  | some el =>
   match Yu P el with
   | some (_,k) =>
    match x with
    | .v (.slice (some ⟨b,off,none⟩) n c)=>(0<=i/\i<n)/\K (.v (.pointer (some ⟨b,off+i.toNat*k,none⟩)))
    | .sl k' xs=>(0<=i/\i<xs.length)/\k'=k/\K (.rp (xs.getD i.toNat default))
    | _=>False
   | none=>False
  | none =>
   match arrT P t with
   | some (len,el) =>
    match Yu P el with
    | some (b,k) =>
     match x with
     | .v (.pointer (some ⟨bl,off,none⟩))=>(0<=i/\i<len)/\K (.v (.pointer (some ⟨bl,off+i.toNat*k,none⟩)))
     | .rp (.agg us)=>(0<=i/\i<len)/\rpart us (i.toNat*k) b k K
     | _=>False
    | none=>False
   | none=>False
 | _=>False
theorem RV.elem{I:Imm}{a:Option Addr}{n c k:Nat}{xs:List AV}(h:RV I (.slice a n c) (.sl k xs))(i:Nat)(hi:i<xs.length):
  n=xs.length/\∃ ad,a=some ad/\ad.spot=none/\RV I (.pointer (some ⟨ad.block,ad.off+i*k,none⟩)) (.rp (xs.getD i default)):=by
 cases h with
 | sl a n c k xs f hn hc hb hl ha hm hr =>
  obtain ⟨ad,rfl,hsp⟩:=ha (by intro e;subst e;simp at hi)
  have hx:xs[i]? = some (xs.getD i default):=by simp [hi]
  refine ⟨hn,ad,rfl,hsp,.rp _ _ (fun j=>f i j) rfl (fun j u hj=>?_) (fun j u hj=>hr i _ j u hx hj)⟩
  have:=hm i _ j u ad hx hj rfl;simpa [Nat.add_assoc] using this
theorem OpS.indexAddr{P:Program}{e:Env}{s:Hp}{K:AV->Hp->Prop}{o:Oper}(t:TypeId)(x i:Operand)(ho:o.op=.indexAddr t x i)(h:aindexAddr P t (ev e x) (ev e i) (fun r=>K r s)):OpS P o e s K:=
 OpS.pure fun n I w a he hs=>by
  have hx:=he.ev x;have hi:=he.ev i;unfold aindexAddr at h
  split at h
  ·rename_i q ki ii hie
   rw [hie] at hi
   split at h
   ·rename_i el hel
    have hu:=elemT_eq hel
    split at h
    ·rename_i bb k hk
     split at h
     ·rename_i b off n c hxe
      rw [hxe] at hx;refine ⟨_,_,?_,.v _,h.2⟩;simp [execOp,ho,Instr.indexAt,asIntOf,run_underlying hu,hx.of_v,hi.of_v,h.1,Ya hk,add_none]
     ·rename_i k' xs hxe
      rw [hxe] at hx;generalize hy:a.eval x=y at hx;obtain ⟨⟨h0,h1⟩,rfl,h2⟩:=h
      have hx':=hx
      cases hx with
      | sl a' n c k xs f hn hc hb hl ha hm hr =>
       obtain ⟨hnn,ad,rfl,hsp,hr'⟩:=hx'.elem ii.toNat (by omega)
       refine ⟨_,_,?_,hr',h2⟩;simp [execOp,ho,Instr.indexAt,asIntOf,run_underlying hu,hy,hi.of_v,hnn,h0,h1,Ya hk,add_spot hsp]
     ·exact h.elim
    ·exact h.elim
   ·split at h
    ·rename_i len el hel
     have hu:=arrT_eq hel
     split at h
     ·rename_i bb k hk
      split at h
      ·rename_i b off hxe
       rw [hxe] at hx;refine ⟨_,_,?_,.v _,h.2⟩;simp [execOp,ho,Instr.indexAt,asIntOf,run_underlying hu,hx.of_v,hi.of_v,h.1,Ya hk,add_none,Instr.sureAddr]
      ·rename_i us hxe
       rw [hxe] at hx;generalize hy:a.eval x=y at hx
       cases hx with
       | rp ad z g hsp hm hr =>
        obtain ⟨r,hr1,hr2⟩:=rpart_elim h.2 (.rp ad _ g hsp hm hr);refine ⟨_,r,?_,hr1,hr2⟩;simp [execOp,ho,Instr.indexAt,asIntOf,run_underlying hu,hy,hi.of_v,h.1,Ya hk,add_spot hsp,Instr.sureAddr]
      ·exact h.elim
     ·exact h.elim
    ·exact h.elim
  ·exact h.elim
def isStrT(P:Program)(t:TypeId):Bool:=match P.underlying t with | some .string=>true | _=>false
theorem isStrT_eq{P:Program}{t:TypeId}(h:isStrT P t=true):P.underlying t=some .string:=by
 unfold isStrT at h;split at h <;> simp_all
def aindex(P:Program)(t:TypeId)(x i:AV)(K:AV->Prop):Prop:=
 match i with
 | .v (.int _ i) =>
  match x with
  | .v (.string s)=>isStrT P t=true/\(0<=i/\i<s.size)/\K (.v (.int .u8 (s.data.getD i.toNat 0).toNat))
  | .agg us =>
   match arrT P t with
   | some (len,el) =>
    match Yu P el with
    | some (b,k)=>(0<=i/\i<len)/\apart us (i.toNat*k) b k K
    | none=>False
   | none=>False
  | _=>False
 | _=>False
theorem OpS.index{P:Program}{e:Env}{s:Hp}{K:AV->Hp->Prop}{o:Oper}(t:TypeId)(x i:Operand)(ho:o.op=.index t x i)(h:aindex P t (ev e x) (ev e i) (fun r=>K r s)):OpS P o e s K:=
 OpS.pure fun n I w a he hs=>by
  have hx:=he.ev x;have hi:=he.ev i;unfold aindex at h
  split at h
  ·rename_i q ki ii hie
   rw [hie] at hi
   split at h
   ·rename_i st hxe
    rw [hxe] at hx;obtain ⟨hu,⟨h0,h1⟩,h2⟩:=h
    have hlt:ii.toNat<st.size:=by omega
    have hg:st[ii.toNat]? = some (st.data.getD ii.toNat 0):=by
     rw [getElem?_pos st ii.toNat hlt];have hlt':ii.toNat<st.data.size:=hlt;have:st.data.getD ii.toNat 0=st.data[ii.toNat]:=by simp [Array.getD,hlt]
     rw [this];rfl
    refine ⟨_,_,?_,.v _,h2⟩;simp [execOp,ho,Instr.index,asIntOf,run_underlying (isStrT_eq hu),hx.of_v,hi.of_v,h0,hg]
   ·rename_i us hxe
    rw [hxe] at hx;generalize hy:a.eval x=y at hx
    split at h
    ·rename_i len el hel
     split at h
     ·rename_i b k hk
      cases hx with
      | agg cs us hl hr =>
       obtain ⟨v,r,q1,q2,q3⟩:=run_part hk hl hr h.2 w;refine ⟨v,r,?_,q2,q3⟩;simp [execOp,ho,Instr.index,asIntOf,run_underlying (arrT_eq hel),hy,hi.of_v,h.1,Ya hk,q1]
     ·exact h.elim
    ·exact h.elim
   ·exact h.elim
  ·exact h.elim
def isMapT(P:Program)(t:TypeId):Bool:=match P.underlying t with | some (.map _ _)=>true | _=>false
theorem isMapT_eq{P:Program}{t:TypeId}(h:isMapT P t=true):∃ k e,P.underlying t=some (.map k e):=by
 unfold isMapT at h;split at h <;> simp_all
def alen(P:Program)(t:TypeId)(x:AV)(s:Hp)(K:AV->Prop):Prop:=
 match Xn P t with
 | some _ =>
  match x with
  | .sl _ xs=>K (.v (.int .i64 xs.length))
  | .v (.slice _ n _)=>K (.v (.int .i64 n))
  | _=>False
 | none =>
  match arrT P t with
  | some (n,_)=>K (.v (.int .i64 n))
  | none =>
   match x with
   | .v (.string y)=>isStrT P t=true/\K (.v (.int .i64 y.size))
   | .v (.map none)=>isMapT P t=true/\K (.v (.int .i64 0))
   | .v (.map (some b)) =>
    match s.get b with
    | some (.imap _ es)=>isMapT P t=true/\K (.v (.int .i64 es.length))
    | _=>False
   | .mp _ es=>isMapT P t=true/\K (.v (.int .i64 es.length))
   | _=>False
theorem OpS.len{P:Program}{e:Env}{s:Hp}{K:AV->Hp->Prop}{o:Oper}(t:TypeId)(x:Operand)(ho:o.op=.call { callee:=.builtin .len,args:=#[x],argTypes:=#[t] })(h:alen P t (ev e x) s (fun r=>K r s)):OpS P o e s K:=
 OpS.pure fun n I w a he hs=>by
  have hx:=he.ev x;unfold alen at h;have go:∀ v,(Builtin.len_ #[t] o.type #[a.eval x]).run P w=.ok v w->(execOp a.eval o).run P w=.ok (.value v) w:=by
   intro v hv;simp [execOp,ho,resolve,invoke,builtin,hv]
  split at h
  ·rename_i el hel
   have hu:=elemT_eq hel
   split at h
   ·rename_i k xs hxe
    rw [hxe] at hx;generalize hy:a.eval x=y at hx
    cases hx with
    | sl a' n c k xs f hn hc hb hl ha hm hr =>
     exact ⟨_,_,go _ (by simp [Builtin.len_,run_underlying hu,hy] <;> rfl),.v _,by simpa [goInt,hn] using h⟩
   ·rename_i hxe
    rw [hxe] at hx;exact ⟨_,_,go _ (by simp [Builtin.len_,run_underlying hu,hx.of_v] <;> rfl),.v _,h⟩
   ·exact h.elim
  ·split at h
   ·rename_i m el hel
    exact ⟨_,_,go _ (by simp [Builtin.len_,run_underlying (arrT_eq hel)] <;> rfl),.v _,h⟩
   ·split at h
    ·rename_i y hxe
     rw [hxe] at hx;exact ⟨_,_,go _ (by simp [Builtin.len_,run_underlying (isStrT_eq h.1),hx.of_v] <;> rfl),.v _,h.2⟩
    ·rename_i hxe
     rw [hxe] at hx;obtain ⟨k,el,hu⟩:=isMapT_eq h.1;exact ⟨_,_,go _ (by simp [Builtin.len_,run_underlying hu,hx.of_v] <;> rfl),.v _,h.2⟩
    ·rename_i b hxe
     rw [hxe] at hx
     split at h
     ·rename_i k es hg
      obtain ⟨kk,el,hu⟩:=isMapT_eq h.1;obtain ⟨c,cl,hc⟩:=hs.obj _ _ (Hp.get_mem hg);have hgo:(getObj b).run P w=.ok (.map c cl) w:=by simp [getObj,Sem.run,hc.block]
      exact ⟨_,_,go _ (by simp [Builtin.len_,run_underlying hu,hx.of_v,hgo,hc.full] <;> rfl),.v _,h.2⟩
     ·exact h.elim
    ·rename_i kk es hxe
     rw [hxe] at hx;obtain ⟨k2,el,hu⟩:=isMapT_eq h.1;generalize hy:a.eval x=y at hx
     cases hx with
     | mp b k es c cl hI hl hk hr ha =>
      have hgo:(getObj b).run P w=.ok (.map c cl) w:=by simp [getObj,Sem.run,hs.imm b _ hI]
      exact ⟨_,_,go _ (by simp [Builtin.len_,run_underlying hu,hy,hgo,hl] <;> rfl),.v _,h.2⟩
    ·exact h.elim
def V5(x:AV)(i:Nat)(K:AV->Prop):Prop:=
 match x with
 | .tup us=>match us[i]? with
  | some u=>K u
  | none=>False
 | _=>False
theorem OpS.extract{P:Program}{e:Env}{s:Hp}{K:AV->Hp->Prop}{o:Oper}(x:Operand)(i:Nat)(ho:o.op=.extract x i)(h:V5 (ev e x) i (fun r=>K r s)):OpS P o e s K:=
 OpS.pure fun n I w a he hs=>by
  have hx:=he.ev x;unfold V5 at h
  split at h
  ·rename_i us hxe
   rw [hxe] at hx;generalize hy:a.eval x=y at hx
   cases hx with
   | tup cs us hl hr =>
    split at h
    ·rename_i u hu
     have hlt:i<cs.size:=by rw [hl];exact (List.getElem?_eq_some_iff.1 hu).1
     exact ⟨cs.getD i undef,u,by simp [execOp,ho,Instr.extract,hy,hlt],hr _ _ hu,h⟩
    ·exact h.elim
  ·exact h.elim
def aun(op:UnOp)(x:AV)(K:AV->Prop):Prop:=
 match op,x with
 | .not,.v (.bool b)=>K (.v (.bool (!b)))
 | .neg,.v (.int k n)=>K (.v (.int k (k.wrap (0-n))))
 | .xor,.v (.int k n)=>K (.v (.int k (bits .xor k (if k.signed then -1 else k.max) n)))
 | _,_=>False
theorem OpS.unOp{P:Program}{e:Env}{s:Hp}{K:AV->Hp->Prop}{o:Oper}(op:UnOp)(t:TypeId)(x:Operand)(ho:o.op=.unOp op t x)(h:aun op (ev e x) (fun r=>K r s)):OpS P o e s K:=
 OpS.pure fun n I w a he hs=>by
  have hx:=he.ev x;unfold aun at h
  split at h
  ·rename_i b hxe
   rw [hxe] at hx;exact ⟨_,_,by simp [execOp,ho,Op.unary,hx.of_v] <;> rfl,.v _,h⟩
  ·rename_i k m hxe
   rw [hxe] at hx;exact ⟨_,_,by simp [execOp,ho,Op.unary,Op.intArith,hx.of_v] <;> rfl,.v _,by simpa using h⟩
  ·rename_i k m hxe
   rw [hxe] at hx;exact ⟨_,_,by simp [execOp,ho,Op.unary,intBits_xor,hx.of_v] <;> rfl,.v _,h⟩
  ·exact h.elim
def aconvInt(P:Program)(src dst:TypeId)(x:AV)(K:AV->Prop):Prop:=
 match intT P dst,x with
 | some k,.v (.int _ m)=>(P.underlying src).isSome=true/\K (.v (.int k (k.wrap m)))
 | _,_=>False
theorem OpS.convInt{P:Program}{e:Env}{s:Hp}{K:AV->Hp->Prop}{o:Oper}(src dst:TypeId)(x:Operand)(ho:o.op=.convert src dst x)(h:aconvInt P src dst (ev e x) (fun r=>K r s)):OpS P o e s K:=
 OpS.pure fun n I w a he hs=>by
  have hx:=he.ev x;unfold aconvInt at h
  split at h
  ·rename_i k q m hk hxe
   rw [hxe] at hx;obtain ⟨d,hd⟩:=Option.isSome_iff_exists.1 h.1;exact ⟨_,_,by simp [execOp,ho,convert,run_underlying hd,run_underlying (intT_eq hk),Conv.intToInt,hx.of_v] <;> rfl,.v _,h.2⟩
  ·exact h.elim
theorem ifaceT_false{P:Program}{t:TypeId}(h:Yl P t=some false):∃ d,P.underlying t=some d/\∀ ms,d≠.interface ms:=by
 unfold Yl at h
 cases hu:P.underlying t with
 | none=>simp [hu] at h
 | some d =>
  refine ⟨d,rfl,fun ms e=>?_⟩
  subst e;simp [hu] at h
def mkIfc(t:TypeId):AV->AV
 | .v x=>.v (.iface t x)
 | x=>.ifc t x
theorem RV.mkIfc{I:Imm}{x:Value}{u:AV}(t:TypeId)(h:RV I x u):RV I (.iface t x) (mkIfc t u):=by
 cases u with
 | v y=>rw [h.of_v];exact .v _
 | sl k xs=>exact .ifc _ _ _ h
 | rp x=>exact .ifc _ _ _ h
 | agg us=>exact .ifc _ _ _ h
 | tup us=>exact .ifc _ _ _ h
 | ifc t x=>exact .ifc _ _ _ h
 | mp k es=>exact .ifc _ _ _ h
 | any ds=>exact .ifc _ _ _ h
theorem OpS.makeInterface{P:Program}{e:Env}{s:Hp}{K:AV->Hp->Prop}{o:Oper}(t:TypeId)(x:Operand)(ho:o.op=.makeInterface t x)(ht:Yl P t=some false)(h:K (mkIfc t (ev e x)) s):OpS P o e s K:=
 OpS.pure fun n I w a he hs=>by
  refine ⟨.iface t (a.eval x),_,?_,(he.ev x).mkIfc t,h⟩;obtain ⟨d,hu,hd⟩:=ifaceT_false ht
  cases d <;> (try exact absurd rfl (hd _)) <;> simp [execOp,ho,Instr.makeInterface,run_underlying hu]
def implT(P:Program)(as t:TypeId):Option Bool:=
 match P.underlying as,P.info? t with
 | some (.interface want),some i=>some (lacking want i.methods).isEmpty
 | _,_=>none
def V6(P:Program)(x:AV)(as:TypeId)(c:Bool)(K:AV->Prop):Prop:=
 match Yl P as with
 | some true =>
  match x with
  | .v .nilIface=>c=true/\K (.tup [.v .nilIface,.v (.bool false)])
  | .v (.iface t y)=>match implT P as t with
   | some true=>K (if c then .tup [.v (.iface t y),.v (.bool true)] else .v (.iface t y))
   | some false=>c=true/\K (.tup [.v .nilIface,.v (.bool false)])
   | none=>False
  | .ifc t y=>match implT P as t with
   | some true=>K (if c then .tup [.ifc t y,.v (.bool true)] else .ifc t y)
   | some false=>c=true/\K (.tup [.v .nilIface,.v (.bool false)])
   | none=>False
  | _=>False
 | some false =>
  match x with
  | .v (.iface t y)=>t=as/\c=false/\K (.v y)
  | .ifc t y=>t=as/\c=false/\K y
  | _=>False
 | none=>False
def aassert(P:Program)(x:AV)(as:TypeId)(K:AV->Prop):Prop:=
 Yl P as=some false /\
 match x with
 | .v .nilIface=>match Xp P as with
  | some z=>K (.tup [ofValue z,.v (.bool false)])
  | none=>False
 | .v (.iface t y)=>if t=as then K (.tup [ofValue y,.v (.bool true)]) else match Xp P as with
  | some z=>K (.tup [ofValue z,.v (.bool false)])
  | none=>False
 | .ifc t y=>if t=as then K (.tup [y,.v (.bool true)]) else match Xp P as with
  | some z=>K (.tup [ofValue z,.v (.bool false)])
  | none=>False
 | _=>False
theorem RV.pair{I:Imm}{x y:Value}{u v:AV}(h:RV I x u)(k:RV I y v):RV I (.tuple #[x,y]) (.tup [u,v]):=by
 refine .tup _ _ rfl fun j z hj=>?_
 match j with
 | 0=>simp at hj;subst hj;exact h
 | 1=>simp at hj;subst hj;exact k
 | j+2=>simp at hj
theorem OpS.typeAssert{P:Program}{e:Env}{s:Hp}{K:AV->Hp->Prop}{o:Oper}(x:Operand)(xt as:TypeId)(ho:o.op=.typeAssert x xt as true)(h:aassert P (ev e x) as (fun r=>K r s)):OpS P o e s K:=
 OpS.pure fun n I w a he hs=>by
  have hx:=he.ev x;obtain ⟨ht,h⟩:=h
  obtain ⟨d,hu,hd⟩:=ifaceT_false ht;have hz:∀ z,Xp P as=some z->(zeroValue as).run P w=.ok z w:=by
   intro z hz;obtain ⟨i,hi,hz'⟩:=Option.bind_eq_some_iff.1 hz;simp [zeroValue,typeInfo,hi,hz']
  split at h
  ·rename_i hxe
   rw [hxe] at hx
   split at h
   ·rename_i z hz'
    refine ⟨_,_,?_,(RV.ofValue I z).pair (.v (.bool false)),h⟩
    cases d <;> (try exact absurd rfl (hd _)) <;> simp [execOp,ho,Instr.typeAssert,run_underlying hu,hx.of_v,hz z hz']
   ·exact h.elim
  ·rename_i t y hxe
   rw [hxe] at hx
   split at h
   ·rename_i hta
    refine ⟨_,_,?_,(RV.ofValue I y).pair (.v (.bool true)),h⟩
    cases d <;> (try exact absurd rfl (hd _)) <;> simp [execOp,ho,Instr.typeAssert,run_underlying hu,hx.of_v,hta]
   ·rename_i hta
    split at h
    ·rename_i z hz'
     refine ⟨_,_,?_,(RV.ofValue I z).pair (.v (.bool false)),h⟩
     cases d <;> (try exact absurd rfl (hd _)) <;> simp [execOp,ho,Instr.typeAssert,run_underlying hu,hx.of_v,hta,hz z hz']
    ·exact h.elim
  ·rename_i t y hxe
   rw [hxe] at hx;generalize hy:a.eval x=vx at hx
   cases hx with
   | ifc t x' u hr =>
    split at h
    ·rename_i hta
     refine ⟨_,_,?_,hr.pair (.v (.bool true)),h⟩
     cases d <;> (try exact absurd rfl (hd _)) <;> simp [execOp,ho,Instr.typeAssert,run_underlying hu,hy,hta]
    ·rename_i hta
     split at h
     ·rename_i z hz'
      refine ⟨_,_,?_,(RV.ofValue I z).pair (.v (.bool false)),h⟩
      cases d <;> (try exact absurd rfl (hd _)) <;> simp [execOp,ho,Instr.typeAssert,run_underlying hu,hy,hta,hz z hz']
     ·exact h.elim
  ·exact h.elim
theorem OpS.typeAssert2{P:Program}{e:Env}{s:Hp}{K:AV->Hp->Prop}{o:Oper}(x:Operand)(xt as:TypeId)(c:Bool)(ho:o.op=.typeAssert x xt as c)(hz:Xp P as=some .nilIface∨c=false)(h:V6 P (ev e x) as c (fun r=>K r s)):OpS P o e s K:=
 OpS.pure fun n I w a he hs=>by
  have hx:=he.ev x;have hzr:c=true->(zeroValue as).run P w=.ok .nilIface w:=by
   intro hc
   rcases hz with hz | hz
   ·obtain ⟨i,hi,hz'⟩:=Option.bind_eq_some_iff.1 hz
    simp [zeroValue,typeInfo,hi,hz']
   ·rw [hz] at hc;simp at hc
  have hout:RV I (.tuple #[.nilIface,.bool false]) (.tup [.v .nilIface,.v (.bool false)]):=(RV.v _).pair (.v _);unfold V6 at h
  split at h
  ·rename_i hif
   obtain ⟨ms,hms⟩:=Wh hif;have impl:∀ t b,implT P as t=some b->∃ i,P.info? t=some i/\(lacking ms i.methods).isEmpty=b:=by
    intro t b hb;unfold implT at hb
    split at hb
    ·rename_i want i h1 h2
     rw [hms] at h1;injection h1 with h1;injection h1 with h1;subst h1
     exact ⟨i,h2,by simpa using hb⟩
    ·simp at hb
   have yes:∀ t v,implT P as t=some true->(Instr.typeAssert (.iface t v) xt as c).run P w=.ok (if c then .tuple #[.iface t v,.bool true] else .iface t v) w:=by
    intro t v hb;obtain ⟨i,h1,h2⟩:=impl t _ hb;have h3:Instr.missingMethod ms i.methods=none:=missingMethod_none (List.isEmpty_iff.1 h2)
    cases c <;> simp [Instr.typeAssert,run_underlying hms,typeInfo,h1,h3]
   have no:∀ t v,implT P as t=some false->c=true->(Instr.typeAssert (.iface t v) xt as c).run P w=.ok (.tuple #[.nilIface,.bool false]) w:=by
    intro t v hb hc;obtain ⟨i,h1,h2⟩:=impl t _ hb;obtain ⟨m,h3⟩:∃ m,Instr.missingMethod ms i.methods=some m:=missingMethod_some (fun e=>by rw [e] at h2;simp at h2)
    simp [Instr.typeAssert,run_underlying hms,typeInfo,h1,h3,hc,hzr hc]
   split at h
   ·rename_i hxe
    rw [hxe] at hx;obtain ⟨hc,h⟩:=h
    refine ⟨_,_,?_,hout,h⟩;simp [execOp,ho,Instr.typeAssert,run_underlying hms,hx.of_v,hc,hzr hc]
   ·rename_i t y hxe
    rw [hxe] at hx
    split at h
    ·rename_i hb
     refine ⟨_,_,by simp only [execOp,ho,hx.of_v];simp [yes t y hb] <;> rfl,?_,h⟩
     cases c
     ·exact .v _
     ·exact (RV.v _).pair (.v _)
    ·rename_i hb
     exact ⟨_,_,by simp only [execOp,ho,hx.of_v];simp [no t y hb h.1] <;> rfl,hout,h.2⟩
    ·exact h.elim
   ·rename_i t y hxe
    rw [hxe] at hx;generalize hy:a.eval x=vx at hx
    cases hx with
    | ifc t x' u hr =>
     split at h
     ·rename_i hb
      refine ⟨_,_,by simp only [execOp,ho,hy];simp [yes t x' hb] <;> rfl,?_,h⟩
      cases c
      ·exact .ifc _ _ _ hr
      ·exact (RV.ifc _ _ _ hr).pair (.v _)
     ·rename_i hb
      exact ⟨_,_,by simp only [execOp,ho,hy];simp [no t x' hb h.1] <;> rfl,hout,h.2⟩
     ·exact h.elim
   ·exact h.elim
  ·rename_i hif
   obtain ⟨d,hu,hd⟩:=ifaceT_false hif
   split at h
   ·rename_i t y hxe
    rw [hxe] at hx;obtain ⟨rfl,rfl,h⟩:=h
    refine ⟨_,_,?_,.v y,h⟩
    cases d <;> (try exact absurd rfl (hd _)) <;> simp [execOp,ho,Instr.typeAssert,run_underlying hu,hx.of_v]
   ·rename_i t y hxe
    rw [hxe] at hx;obtain ⟨rfl,rfl,h⟩:=h
    generalize hy:a.eval x=vx at hx
    cases hx with
    | ifc t x' u hr =>
     refine ⟨_,_,?_,hr,h⟩
     cases d <;> (try exact absurd rfl (hd _)) <;> simp [execOp,ho,Instr.typeAssert,run_underlying hu,hy]
   ·exact h.elim
  ·exact h.elim
def Yg:List AV->Option (List Value)
 | []=>some []
 | .v x::l=>(Yg l).map (x::·)
 | _=>none
theorem flats_eq{e:Env}{I:Imm}{n:Fr}{a:Act}(he:EnvRel I n a e):∀ (l:List Operand) (vs:List Value),Yg (l.map (ev e))=some vs->l.map a.eval=vs
 | [],vs,h=>by simp [Yg] at h;rw [h];rfl
 | x::l,vs,h=>by
  simp only [List.map_cons] at h;unfold Yg at h
  split at h
  ·simp at *
  ·rename_i y l' heq
   simp only [List.cons.injEq] at heq;obtain ⟨h1,rfl⟩:=heq;obtain ⟨vs',h2,rfl⟩:=Option.map_eq_some_iff.1 h;have hx:=he.ev x;rw [h1] at hx;rw [List.map_cons,flats_eq he l vs' h2,hx.of_v]
  ·simp at h
def amakeFunc(e:Env)(fn:Fn)(first caps:Array Operand)(K:AV->Prop):Prop:=
 match Yg (first.toList.map (ev e)),Yg (caps.toList.map (ev e)) with
 | some fs,some cs=>K (.v (.func fn fs.toArray cs.toArray))
 | _,_=>False
theorem OpS.makeFunc{P:Program}{e:Env}{s:Hp}{K:AV->Hp->Prop}{o:Oper}(fn:Fn)(first caps:Array Operand)(ho:o.op=.makeFunc fn first caps)(h:amakeFunc e fn first caps (fun r=>K r s)):OpS P o e s K:=
 OpS.pure fun n I w a he hs=>by
  unfold amakeFunc at h
  split at h
  ·rename_i fs cs h1 h2
   have e1:first.map a.eval=fs.toArray:=by
    apply Array.ext';rw [Array.toList_map];exact flats_eq he _ _ h1
   have e2:caps.map a.eval=cs.toArray:=by
    apply Array.ext';rw [Array.toList_map];exact flats_eq he _ _ h2
   exact ⟨_,_,by simp [execOp,ho,Instr.makeFunc,e1,e2] <;> rfl,.v _,h⟩
  ·exact h.elim
def amax(x y:AV)(K:AV->Prop):Prop:=
 match x,y with
 | .v (.int k a),.v (.int _ b)=>K (.v (.int k (if a<b then b else a)))
 | _,_=>False
def amin(x y:AV)(K:AV->Prop):Prop:=
 match x,y with
 | .v (.int k a),.v (.int _ b)=>K (.v (.int k (if b<a then b else a)))
 | _,_=>False
theorem OpS.bmax{P:Program}{e:Env}{s:Hp}{K:AV->Hp->Prop}{o:Oper}(ts:Array TypeId)(x y:Operand)(ho:o.op=.call { callee:=.builtin .max,args:=#[x,y],argTypes:=ts })(h:amax (ev e x) (ev e y) (fun r=>K r s)):OpS P o e s K:=
 OpS.pure fun n I w a he hs=>by
  have hx:=he.ev x;have hy:=he.ev y;unfold amax at h
  split at h
  ·rename_i hxe hye
   rw [hxe] at hx;rw [hye] at hy;exact ⟨_,_,by simp [execOp,ho,resolve,invoke,builtin,hx.of_v,hy.of_v,run_max_int2] <;> rfl,.v _,by simpa using h⟩
  ·exact h.elim
def amax3(x y z:AV)(K:AV->Prop):Prop:=
 match x,y,z with
 | .v (.int k a),.v (.int _ b),.v (.int _ c)=>K (.v (.int k (if (if a<b then b else a)<c then c else (if a<b then b else a))))
 | _,_,_=>False
theorem OpS.bmax3{P:Program}{e:Env}{s:Hp}{K:AV->Hp->Prop}{o:Oper}(ts:Array TypeId)(x y z:Operand)(ho:o.op=.call { callee:=.builtin .max,args:=#[x,y,z],argTypes:=ts })(h:amax3 (ev e x) (ev e y) (ev e z) (fun r=>K r s)):OpS P o e s K:=
 OpS.pure fun n I w a he hs=>by
  have hx:=he.ev x;have hy:=he.ev y;have hz:=he.ev z;unfold amax3 at h
  split at h
  ·rename_i hxe hye hze
   rw [hxe] at hx;rw [hye] at hy;rw [hze] at hz;exact ⟨_,_,by simp [execOp,ho,resolve,invoke,builtin,hx.of_v,hy.of_v,hz.of_v,Builtin.max_,Builtin.max2] <;> rfl,.v _,by simpa using h⟩
  ·exact h.elim
theorem OpS.bmin{P:Program}{e:Env}{s:Hp}{K:AV->Hp->Prop}{o:Oper}(ts:Array TypeId)(x y:Operand)(ho:o.op=.call { callee:=.builtin .min,args:=#[x,y],argTypes:=ts })(h:amin (ev e x) (ev e y) (fun r=>K r s)):OpS P o e s K:=
 OpS.pure fun n I w a he hs=>by
  have hx:=he.ev x;have hy:=he.ev y;unfold amin at h
  split at h
  ·rename_i hxe hye
   rw [hxe] at hx;rw [hye] at hy;exact ⟨_,_,by simp [execOp,ho,resolve,invoke,builtin,hx.of_v,hy.of_v,run_min_int2] <;> rfl,.v _,by simpa using h⟩
  ·exact h.elim
def Wq:Option AV->Option (Option Int)
 | none=>some none
 | some (.v (.int _ i))=>some (some i)
 | _=>none
def abounds(len cap:Nat)(lo hi mx:Option Int)(K:Nat->Nat->Nat->Prop):Prop:=
 (mx.isSome=true->hi.isSome=true)/\(0<=mx.getD (cap:Int)/\mx.getD (cap:Int)<=cap)/\(0<=hi.getD (len:Int)/\hi.getD (len:Int)<=mx.getD (cap:Int))/\(0<=lo.getD 0/\lo.getD 0<=hi.getD (len:Int)) /\
  K (lo.getD 0).toNat (hi.getD (len:Int)).toNat (mx.getD (cap:Int)).toNat
theorem optInt_val{e:Env}{I:Imm}{n:Fr}{a:Act}(he:EnvRel I n a e)(x:Option Operand)(i:Option Int)(h:Wq (x.map (ev e))=some i):
  (x=none/\i=none)∨∃ k j,i=some j/\x.map a.eval=some (.int k j):=by
 cases x with
 | none=>simp [Wq] at h;exact .inl ⟨rfl,h.symm⟩
 | some x =>
  have hx:=he.ev x;simp only [Option.map_some] at h;unfold Wq at h
  split at h
  ·rename_i heq;simp at heq
  ·rename_i q k j heq
   simp only [Option.some.injEq] at heq h;rw [heq] at hx;exact .inr ⟨k,j,h.symm,by simp [hx.of_v]⟩
  ·simp at h
theorem Xx{P:Program}{b:Bool}{len cap:Nat}{e:Env}{I:Imm}{n:Fr}{a:Act}(he:EnvRel I n a e)(lo hi mx:Option Operand)(l h m:Option Int)(hl:Wq (lo.map (ev e))=some l)(hh:Wq (hi.map (ev e))=some h)(hm:Wq (mx.map (ev e))=some m)(K:Nat->Nat->Nat->Prop)(hk:abounds len cap l h m K)(w:World):
  ∃ x y z,(Instr.sliceBounds b len cap (lo.map a.eval) (hi.map a.eval) (mx.map a.eval)).run P w=.ok (x,y,z) w/\x=(l.getD 0).toNat/\y=(h.getD (len:Int)).toNat/\z=(m.getD (cap:Int)).toNat /\
   x<=y/\y<=z/\z<=cap/\K x y z:=by
 obtain ⟨h1,h2,h3,h4,h5⟩:=hk;have sb:∀ (k:IntKind) (i:Int) (y:Nat) (code:BoundsCode) (w:World),0<=i->i<=y->(Instr.sliceBound (.int k i) y code).run P w=.ok i.toNat w:=by
  intro k i y code w h0 h1;simp [Instr.sliceBound,asIntOf,h0,h1]
 refine ⟨_,_,_,?_,rfl,rfl,rfl,by omega,by omega,by omega,h5⟩
 rcases optInt_val he lo l hl with ⟨rfl,rfl⟩ | ⟨kl,jl,rfl,el⟩ <;> rcases optInt_val he hi h hh with ⟨rfl,rfl⟩ | ⟨kh,jh,rfl,eh⟩ <;> rcases optInt_val he mx m hm with ⟨rfl,rfl⟩ | ⟨km,jm,rfl,em⟩ <;>
  simp only [Option.getD_none,Option.getD_some,Option.isSome_some,Option.isSome_none,Bool.false_eq_true,imp_false,not_true_eq_false,forall_const] at h1 h2 h3 h4 <;>
  simp only [Instr.sliceBounds,Option.map_none, *,Option.getD_none,Option.getD_some,Option.isSome_some,Option.isSome_none]
 ·simp
 ·rw [Sem.run_bind,Sem.run_pure,Result.andThen_ok,Sem.run_bind,sb _ _ _ _ _ (by omega) (by omega)];simp
 ·rw [Sem.run_bind,sb _ _ _ _ _ (by omega) (by omega),Result.andThen_ok,Sem.run_bind,sb _ _ _ _ _ (by omega) (by omega)];simp
 ·rw [Sem.run_bind,Sem.run_pure,Result.andThen_ok,Sem.run_bind,Sem.run_pure,Result.andThen_ok,Sem.run_bind,sb _ _ _ _ _ (by omega) (by omega)];simp
 ·rw [Sem.run_bind,Sem.run_pure,Result.andThen_ok,Sem.run_bind,sb _ _ _ _ _ (by omega) (by omega),Result.andThen_ok,Sem.run_bind,sb _ _ _ _ _ (by omega) (by omega)];simp
 ·rw [Sem.run_bind,sb _ _ _ _ _ (by omega) (by omega),Result.andThen_ok,Sem.run_bind,sb _ _ _ _ _ (by omega) (by omega),Result.andThen_ok,Sem.run_bind,sb _ _ _ _ _ (by omega) (by omega)];simp
def Yv(off l m k:Nat):Nat:=if m=l then off else off+l*k
def aslice(P:Program)(t:TypeId)(x:AV)(lo hi mx:Option AV)(K:AV->Prop):Prop:=
 match Wq lo,Wq hi,Wq mx with
 | some lo,some hi,some mx =>
  match Xn P t with
  | some el =>
   match Yu P el with
   | some (_,k) =>
    match x with
    | .sl k' xs=>k'=k/\abounds xs.length xs.length lo hi mx (fun l h _=>K (.sl k' ((xs.take h).drop l)))
    | .v (.slice none n c)=>abounds n c lo hi mx (fun l h m=>K (.v (.slice none (h-l) (m-l))))
    | .v (.slice (some ⟨b,off,none⟩) n c)=>abounds n c lo hi mx (fun l h m=>K (.v (.slice (some ⟨b,Yv off l m k,none⟩) (h-l) (m-l))))
    | _=>False
   | none=>False
  | none =>
   match arrT P t with
   | some (n,el) =>
    match Yu P el with
    | some (_,k) =>
     match x with
     | .v (.pointer (some ⟨b,off,none⟩))=>abounds n n lo hi mx (fun l h m=>K (.v (.slice (some ⟨b,Yv off l m k,none⟩) (h-l) (m-l))))
     | _=>False
    | none=>False
   | none =>
    match x with
    | .v (.string y)=>isStrT P t=true/\mx=none/\abounds y.size y.size lo hi none (fun l h _=>K (.v (.string (y.extract l h))))
    | _=>False
 | _,_,_=>False
theorem RV.sub{I:Imm}{a:Option Addr}{n c k:Nat}{xs:List AV}(h:RV I (.slice a n c) (.sl k xs))(l m hh:Nat)(h1:l<=hh)(h2:hh<=n)(h3:hh<=m):
  RV I (.slice (if m=l then a else a.map (·.add (l*k))) (hh-l) (m-l)) (.sl k ((xs.take hh).drop l)):=by
 cases h with
 | sl a n c k xs f hn hc hb hl ha hm hr =>
  have hget:∀ (i:Nat) (x:AV),((xs.take hh).drop l)[i]? = some x->xs[l+i]? = some x/\l+i<hh:=by
   intro i x hi;rw [List.getElem?_drop,List.getElem?_take] at hi
   split at hi
   ·exact ⟨hi,by assumption⟩
   ·simp at hi
  refine .sl _ _ _ _ _ (fun i j=>f (l+i) j) (by simp;omega) (by omega) (by omega) (fun i x hi=>hl _ x (hget i x hi).1) (fun hne=>?_) (fun i x j u ad hi hj he=>?_) (fun i x j u hi hj=>hr _ x j u (hget i x hi).1 hj)
  ·have hne':xs≠[]:=by intro e;subst e;simp at hne
   obtain ⟨ad,rfl,hsp⟩:=ha hne'
   split
   ·exact ⟨ad,rfl,hsp⟩
   ·exact ⟨_,rfl,by simp only [];rw [add_spot hsp]⟩
  ·obtain ⟨hx,hlt⟩:=hget i x hi
   rw [if_neg (by omega)] at he
   have hne':xs≠[]:=by intro e;subst e;simp at hx
   obtain ⟨ad',rfl,hsp⟩:=ha hne';simp only [Option.map_some,Option.some.injEq] at he;subst he;rw [add_spot hsp];have:=hm _ x j u ad' hx hj rfl;have e2:ad'.off+l*k+(i*k+j)=ad'.off+((l+i)*k+j):=by rw [Nat.add_mul];omega
   simpa [e2] using this
theorem abounds_cap{len cap:Nat}{lo hi mx:Option Int}{K:Nat->Nat->Nat->Prop}(h:abounds len len lo hi mx K)(hc:len<=cap):
  abounds len cap lo hi mx (fun l h m=>h<=len/\∃ m',K l h m'):=by
 obtain ⟨g1,g2,g3,g4,g5⟩:=h
 refine ⟨g1,?_,?_,g4,?_,_,g5⟩
 ·cases mx with
  | none=>simp
  | some m=>simp only [Option.getD_some] at *;omega
 ·cases mx with
  | none=>simp only [Option.getD_none] at *;omega
  | some m=>simpa using g3
 ·cases mx <;> simp only [Option.getD_none,Option.getD_some] at * <;> omega
theorem OpS.slice{P:Program}{e:Env}{s:Hp}{K:AV->Hp->Prop}{o:Oper}(t:TypeId)(x:Operand)(lo hi mx:Option Operand)(ho:o.op=.slice t x lo hi mx)(h:aslice P t (ev e x) (lo.map (ev e)) (hi.map (ev e)) (mx.map (ev e)) (fun r=>K r s)):OpS P o e s K:=
 OpS.pure fun n I w a he hs=>by
  have hx:=he.ev x;unfold aslice at h
  split at h
  ·rename_i l hh m e1 e2 e3
   split at h
   ·rename_i el hel
    have hu:=elemT_eq hel;have hu':P.underlying t=some (.slice (P.elem t)):=by simp [Program.elem,hu]
    have helt:P.elem t=el:=by simp [Program.elem,hu]
    have go:∀ (a':Option Addr) (nn c k:Nat) (bb:Bool) (p q r:Nat),Yu P el=some (bb,k)->a.eval x=.slice a' nn c ->
      (Instr.sliceBounds true nn c (lo.map a.eval) (hi.map a.eval) (mx.map a.eval)).run P w=.ok (p,q,r) w ->
      (execOp a.eval o).run P w=.ok (.value (.slice (if r=p then a' else a'.map (·.add (p*k))) (q-p) (r-p))) w:=by
     intro a' nn c k bb p q r hk hy hrun;simp [execOp,ho,Instr.sliceAt,Instr.slice,run_underlying hu,hy,hrun,Ya hk]
    split at h
    ·rename_i bb k hk
     split at h
     ·rename_i k' xs hxe
      rw [hxe] at hx;obtain ⟨rfl,h⟩:=h
      generalize hy:a.eval x=y at hx;have hx':=hx
      cases hx with
      | sl a' nn c k xs f hn hc hb hl ha hm hr =>
       subst hn;obtain ⟨p,q,r,hrun,hp,hq,hr',o1,o2,o3,o4,m',hK⟩:=Xx (P:=P) (b:=true) he lo hi mx l hh m e1 e2 e3 _ (abounds_cap h hc) w;exact ⟨_,_,go _ _ _ _ _ p q r hk hy hrun,hx'.sub p r q o1 o4 o2,hK⟩
     ·rename_i nn c hxe
      rw [hxe] at hx;obtain ⟨p,q,r,hrun,hp,hq,hr',o1,o2,o3,hK⟩:=Xx (P:=P) (b:=true) he lo hi mx l hh m e1 e2 e3 _ h w;exact ⟨_,_,go _ _ _ _ _ p q r hk hx.of_v hrun,by simpa using .v _,hK⟩
     ·rename_i b off nn c hxe
      rw [hxe] at hx;obtain ⟨p,q,r,hrun,hp,hq,hr',o1,o2,o3,hK⟩:=Xx (P:=P) (b:=true) he lo hi mx l hh m e1 e2 e3 _ h w;refine ⟨_,_,go _ _ _ _ _ p q r hk hx.of_v hrun,?_,hK⟩;unfold Yv
      split
      ·exact .v _
      ·simp only [Option.map_some,add_none];exact .v _
     ·exact h.elim
    ·exact h.elim
   ·split at h
    ·rename_i nn el hel
     have hu:=arrT_eq hel
     split at h
     ·rename_i bb k hk
      split at h
      ·rename_i b off hxe
       rw [hxe] at hx;obtain ⟨p,q,r,hrun,hp,hq,hr',o1,o2,o3,hK⟩:=Xx (P:=P) (b:=false) he lo hi mx l hh m e1 e2 e3 _ h w;refine ⟨.slice (some (if r=p then ⟨b,off,none⟩ else ⟨b,off+p*k,none⟩)) (q-p) (r-p),_,?_,?_,hK⟩
       ·simp [execOp,ho,Instr.sliceAt,run_underlying hu,hx.of_v,hrun,Ya hk,Instr.sureAddr,add_none]
       ·unfold Yv
        split <;> exact .v _
      ·exact h.elim
     ·exact h.elim
    ·split at h
     ·rename_i y hxe
      rw [hxe] at hx;obtain ⟨h1,rfl,h3⟩:=h
      have hu:=isStrT_eq h1;obtain ⟨p,q,r,hrun,hp,hq,hr',o1,o2,o3,hK⟩:=Xx (P:=P) (b:=false) he lo hi none l hh none e1 e2 rfl _ h3 w;have hmx:mx=none:=by
       cases mx with
       | none=>rfl
       | some z =>
        simp only [Option.map_some] at e3;unfold Wq at e3
        split at e3 <;> simp_all
      subst hmx;refine ⟨_,_,?_,.v _,hK⟩;simp only [Option.map_none] at hrun;simp [execOp,ho,Instr.sliceAt,Instr.slice,run_underlying hu,hx.of_v,hrun]
     ·exact h.elim
  ·exact h.elim
def placesT(P:Program)(t:TypeId):Option (List (Nat × Nat)):=
 match P.underlying t with
 | some (.struct fs)=>fs.toList.mapM (fun f=>(P.info? f.type).map fun i=>(f.offset,i.size))
 | _=>none
def afill(place:Nat->Option (Nat × Nat))(cells:List AV):List (Nat × AV)->Option (List AV)
 | []=>some cells
 | (i,v)::rest =>
  match place i with
  | none=>none
  | some (off,size)=>if (cellsOf v).length=size/\off+(cellsOf v).length<=cells.length/\(cellsOf v).all AV.one=true then afill place (splice cells off (cellsOf v)) rest else none
theorem foldl_set(cells:Array Value)(xs:List Value):∀ (off:Nat),off+xs.length<=cells.size ->
  ((xs.toArray.zipIdx).foldl (fun cs (p:Value × Nat)=>cs.setIfInBounds (off+p.2) p.1) cells).toList=splice cells.toList off xs:=by
 have key:∀ (xs:List Value) (k off:Nat) (cells:Array Value),off+k+xs.length<=cells.size ->
   ((xs.zipIdx k).foldl (fun cs (p:Value × Nat)=>cs.setIfInBounds (off+p.2) p.1) cells).toList=splice cells.toList (off+k) xs:=by
  intro xs
  induction xs with
  | nil=>intro k off cells h;simp [splice]
  | cons x xs ih =>
   intro k off cells h;simp only [List.length_cons] at h;rw [List.zipIdx_cons,List.foldl_cons,show off+(x,k).2=off+k from rfl,ih (k+1) off _ (by simp;omega)]
   simp only [Array.toList_setIfInBounds];apply List.ext_getElem?;intro j;rw [getElem?_splice _ _ _ (by simp;omega),getElem?_splice _ _ _ (by simp;omega)]
   simp only [List.length_cons]
   by_cases h1:off+(k+1)<=j/\j<off+(k+1)+xs.length
   ·rw [if_pos h1,if_pos (by omega)]
    have:j-(off+k)=(j-(off+(k+1)))+1:=by omega
    rw [this,List.getElem?_cons_succ]
   ·rw [if_neg h1]
    by_cases h2:j=off+k
    ·subst h2
     rw [if_pos (by omega)]
     simp [List.getElem?_set,show off+k<cells.size by omega]
    ·rw [if_neg (by omega),List.getElem?_set_ne (by omega)]
 intro off h;have:=key xs 0 off cells (by omega)
 simp only [Nat.add_zero] at this;rw [<- this,<- Array.foldl_toList];simp
theorem fill_rel{I:Imm}{place:Nat->Option (Nat × Nat)}:∀ (parts:List (Nat × AV)) (vs:List (Nat × Value)) (cells:List AV) (cc:Array Value) (out:List AV),
  afill place cells parts=some out->parts.length=vs.length->(∀ (j:Nat) (p:Nat × AV) (q:Nat × Value),parts[j]? = some p->vs[j]? = some q->q.1=p.1/\RV I q.2 p.2) ->
  cc.size=cells.length->(∀ (j:Nat) (u:AV),cells[j]? = some u->RV I (cc.getD j undef) u) ->
  ∃ oc,Instr.fill place cc vs=some oc/\oc.size=out.length/\∀ (j:Nat) (u:AV),out[j]? = some u->RV I (oc.getD j undef) u
 | [],vs,cells,cc,out,h,hl,hp,hc,hr=>by
  simp [afill] at h;subst h;have:vs=[]:=List.eq_nil_of_length_eq_zero (by simpa using hl.symm)
  subst this;exact ⟨cc,rfl,hc,hr⟩
 | (i,v)::rest,vs,cells,cc,out,h,hl,hp,hc,hr=>by
  match vs,hl with
  | (i',x)::vs',hl =>
   obtain ⟨hi,hx⟩:=hp 0 _ _ rfl rfl;simp only at hi hx;subst hi;simp only [afill] at h
   cases hpl:place i' with
   | none=>simp [hpl] at h
   | some os =>
    obtain ⟨off,size⟩:=os;simp only [hpl] at h
    split at h
    ·rename_i hcond
     obtain ⟨h1,h2,h3⟩:=hcond;obtain ⟨hsz,hcell⟩:=hx.cells h3;have hz:=foldl_set cc x.cells.toList off (by simp;omega)
     simp only [Array.toArray_toList] at hz;have hsz2:((x.cells.zipIdx).foldl (fun cs (p:Value × Nat)=>cs.setIfInBounds (off+p.2) p.1) cc).size=cc.size:=by
      rw [<- Array.length_toList,hz,length_splice _ _ _ (by simp;omega)];simp
     obtain ⟨oc,h4,h5,h6⟩:=fill_rel rest vs' (splice cells off (cellsOf v)) ((x.cells.zipIdx).foldl (fun cs (p:Value × Nat)=>cs.setIfInBounds (off+p.2) p.1) cc) out h (by simpa using hl)
      (fun j p q hj hq=>hp (j+1) p q hj hq) (by rw [hsz2,length_splice _ _ _ h2];exact hc) (fun j u hj=>by
       rw [getElem?_splice _ _ _ h2] at hj;have e1:∀ y,(splice cc.toList off x.cells.toList)[j]? = some y->((x.cells.zipIdx).foldl (fun cs (p:Value × Nat)=>cs.setIfInBounds (off+p.2) p.1) cc).getD j undef=y:=by
        intro y hy;rw [<- hz,Array.getElem?_toList] at hy;simp only [Array.getD_eq_getD_getElem?,hy,Option.getD_some]
       split at hj
       ·rename_i hin
        obtain ⟨z,hz1,hz2,_⟩:=hcell _ u hj;rw [e1 z (by rw [getElem?_splice _ _ _ (by simp;omega),if_pos (by simp;omega)];simpa using hz1)]
        exact hz2
       ·rename_i hout
        have hlt:j<cc.size:=by rw [hc];exact (List.getElem?_eq_some_iff.1 hj).1
        rw [e1 (cc.getD j undef) (by rw [getElem?_splice _ _ _ (by simp;omega),if_neg (by simp;omega)];simp [hlt])]
        exact hr j u hj)
     refine ⟨oc,?_,h5,h6⟩;unfold Instr.fill;simp only [hpl,hsz,h1];rw [if_neg (by simp;omega)]
     exact h4
    ·simp at h
def Yr(z:Value):List AV:=z.cells.toList.map .v
theorem zcells_rv(I:Imm)(z:Value)(j:Nat)(u:AV)(h:(Yr z)[j]? = some u):RV I (z.cells.getD j undef) u:=by
 unfold Yr at h;rw [List.getElem?_map] at h;obtain ⟨y,hy,rfl⟩:=Option.map_eq_some_iff.1 h;have:z.cells.getD j undef=y:=by simp only [Array.getElem?_toList] at hy;simp [hy]
 rw [this];exact .v y
def parts(e:Env)(ps:Array (Nat × Operand)):List (Nat × AV):=ps.toList.map fun p=>(p.1,ev e p.2)
theorem parts_rel{e:Env}{I:Imm}{n:Fr}{a:Act}(he:EnvRel I n a e)(ps:Array (Nat × Operand)):
  (parts e ps).length=((ps.map fun (p:Nat × Operand)=>(p.1,a.eval p.2)).toList).length /\
  ∀ (j:Nat) (p:Nat × AV) (q:Nat × Value),(parts e ps)[j]? = some p->((ps.map fun (p:Nat × Operand)=>(p.1,a.eval p.2)).toList)[j]? = some q->q.1=p.1/\RV I q.2 p.2:=by
 refine ⟨by simp [parts],fun j p q hp hq=>?_⟩
 unfold parts at hp;rw [List.getElem?_map] at hp;obtain ⟨y,hy,rfl⟩:=Option.map_eq_some_iff.1 hp;rw [Array.toList_map,List.getElem?_map,hy] at hq;simp at hq;subst hq;exact ⟨rfl,he.ev _⟩
def abuild(P:Program)(e:Env)(t:TypeId)(ps:Array (Nat × Operand))(K:AV->Prop):Prop:=
 match placesT P t,Xp P t with
 | some pl,some z=>match afill (fun (i:Nat)=>pl[i]?) (Yr z) (parts e ps) with
  | some us=>K (.agg us)
  | none=>False
 | _,_=>False
theorem OpS.build{P:Program}{e:Env}{s:Hp}{K:AV->Hp->Prop}{o:Oper}(t:TypeId)(ps:Array (Nat × Operand))(ho:o.op=.build t ps)(h:abuild P e t ps (fun r=>K r s)):OpS P o e s K:=
 OpS.pure fun n I w a he hs=>by
  unfold abuild at h
  split at h
  ·rename_i pl z hpl hz
   split at h
   ·rename_i us hf
    unfold placesT at hpl
    split at hpl
    ·rename_i fs hu
     obtain ⟨i,hi,hz'⟩:=Option.bind_eq_some_iff.1 hz;obtain ⟨hlen,hp⟩:=parts_rel he ps;obtain ⟨oc,h1,h2,h3⟩:=fill_rel (I:=I) _ _ _ z.cells us hf hlen hp (by simp [Yr]) (zcells_rv I z)
     have hpf:(fun (i:Nat)=>pl[i]?)=(fun (i:Nat)=>pl.toArray[i]?):=by funext i;simp
     rw [hpf] at h1;have hb:P.built t ((ps.map fun (p:Nat × Operand)=>(p.1,a.eval p.2)).toList)=some oc:=by
      unfold Program.built;simp only [hi,hu,hz',hpl];exact h1
     have:=run_build (P:=P) w t (ps.map fun (p:Nat × Operand)=>(p.1,a.eval p.2)) oc hb
     refine ⟨_,_,?_,.agg oc us h2 h3,h⟩;simp only [execOp,ho];rw [Sem.run_bind]
     erw [this]
     rfl
    ·simp at hpl
   ·exact h.elim
  ·exact h.elim
def bcells(z:Value)(n k:Nat):List AV:=(List.range (n*k)).map fun i=>(Yr z).getD (i % k) default
def bcellsR:Nat->List AV->List AV
 | 0,_=>[]
 | n+1,zs=>zs++bcellsR n zs
theorem bcellsR_at(zs:List AV):∀ (n i:Nat),i<n*zs.length->(bcellsR n zs)[i]? = some (zs.getD (i % zs.length) default)
 | 0,i,h=>by simp at h
 | n+1,i,h=>by
  unfold bcellsR;rw [List.getElem?_append];have hz:0<zs.length:=by
   rcases Nat.eq_zero_or_pos zs.length with h0 | h0
   ·rw [h0] at h;simp at h
   ·exact h0
  split
  ·rename_i hi
   rw [Nat.mod_eq_of_lt hi];simp [hi]
  ·rename_i hi
   have hge:zs.length<=i:=by omega
   rw [bcellsR_at zs n (i-zs.length) (by rw [Nat.add_mul] at h;omega),Nat.mod_eq_sub_mod hge]
theorem bcellsR_length(zs:List AV):∀ n,(bcellsR n zs).length=n*zs.length
 | 0=>by simp [bcellsR]
 | n+1=>by unfold bcellsR;rw [List.length_append,bcellsR_length zs n,Nat.add_mul];omega
theorem bcells_eq{z:Value}{n k:Nat}(h:(Yr z).length=k):bcells z n k=bcellsR n (Yr z):=by
 subst h;unfold bcells;apply List.ext_getElem?;intro i
 by_cases hi:i<n*(Yr z).length
 ·rw [List.getElem?_map,List.getElem?_range hi,bcellsR_at _ _ _ hi];rfl
 ·rw [List.getElem?_eq_none (by simpa using Nat.le_of_not_lt hi),List.getElem?_eq_none (by rw [bcellsR_length];omega)]
def abuildSlice(P:Program)(e:Env)(s:Hp)(t:TypeId)(len:Nat)(ps:Array (Nat × Operand))(K:AV->Hp->Prop):Prop:=
 match Xn P t with
 | some el =>
  match Yu P el,Xp P el with
  | some (_,k),some z =>
   0<k/\z.cells.size=k/\0<len/\len*k<=16777216 /\
   match afill (fun i=>some (i*k,k)) (bcells z len k) (parts e ps) with
   | some us=>∀ b,b∉s.keys->K (.v (.slice (some ⟨b,0,none⟩) len len)) ((b,.cells el us (len*k))::s)
   | none=>False
  | _,_=>False
 | none=>False
theorem zrow{z:Value}{k n:Nat}(hk:0<k)(hz:z.cells.size=k)(I:Imm):
  ((Array.range n).map (z.cells[· % z.cells.size]!)).size=((List.range n).map fun i=>(Yr z).getD (i % k) default).length /\
  ∀ (j:Nat) (u:AV),((List.range n).map fun i=>(Yr z).getD (i % k) default)[j]? = some u->RV I (((Array.range n).map (z.cells[· % z.cells.size]!)).getD j undef) u:=by
 refine ⟨by simp,fun j u h=>?_⟩
 have hjn:j<n:=by
  have:=(List.getElem?_eq_some_iff.1 h).1;simpa using this
 rw [List.getElem?_map] at h;obtain ⟨i,hi,rfl⟩:=Option.map_eq_some_iff.1 h;have hj:i=j:=by
  rw [List.getElem?_range hjn] at hi;simpa using hi.symm
 subst hj;have hlt:i % k<z.cells.size:=by rw [hz];exact Nat.mod_lt _ hk
 have e1:((Array.range n).map (z.cells[· % z.cells.size]!)).getD i undef=z.cells[i % k]:=by
  simp [hjn,hz];exact getElem!_pos z.cells (i % k) hlt
 have e2:(Yr z).getD (i % k) default=.v z.cells[i % k]:=by
  simp [Yr,hlt]
 rw [e1,e2];exact .v _
theorem afill_length{place:Nat->Option (Nat × Nat)}:∀ (ps:List (Nat × AV)) (cells:List AV) {out:List AV},afill place cells ps=some out->out.length=cells.length
 | [],cells,out,h=>by simp [afill] at h;rw [h]
 | (i,v)::rest,cells,out,h=>by
  simp only [afill] at h
  split at h
  ·simp at h
  ·split at h
   ·rename_i hc
    rw [afill_length rest _ h,length_splice _ _ _ hc.2.1]
   ·simp at h
theorem OpS.buildSlice{P:Program}{e:Env}{s:Hp}{K:AV->Hp->Prop}{o:Oper}(t:TypeId)(len:Nat)(ps:Array (Nat × Operand))(ho:o.op=.buildSlice t len ps)(h:abuildSlice P e s t len ps K):OpS P o e s K:=
 OpS.run fun n I w a he hs=>by
  unfold abuildSlice at h
  split at h
  ·rename_i el hel
   split at h
   ·rename_i bb k z hk hz
    obtain ⟨hk0,hzk,hlen0,hlen,h⟩:=h
    split at h
    ·rename_i us hf
     obtain ⟨i,hi,hz'⟩:=Option.bind_eq_some_iff.1 hz;obtain ⟨hl,hp⟩:=parts_rel he ps;obtain ⟨r1,r2⟩:=zrow (n:=len*k) hk0 hzk I;obtain ⟨oc,h1,h2,h3⟩:=fill_rel (I:=I) _ _ _ ((Array.range (len*k)).map (z.cells[· % z.cells.size]!)) us hf hl hp r1 r2;have hsz:oc.size=len*k:=by
      have:=afill_length _ _ hf;rw [h2,this];simp [bcells]
     have hsize:i.size=k:=by
      have:=Ya hk w;simp [sizeOf,typeInfo,hi] at this;exact this
     refine ⟨_,_,_,I,w.alloc (.cells oc el),?_,.v _,hs.alloc _ (.cells el us (len*k)) ?_,Ext.alloc I s w _ _,h w.heap.size hs.fresh_key⟩
     ·have hpos:¬ len*i.size=0:=by rw [hsize];exact Nat.ne_of_gt (Nat.mul_pos hlen0 hk0)
      have hrun:=run_buildSlice (P:=P) w t el len (ps.map fun (p:Nat × Operand)=>(p.1,a.eval p.2)) oc i z (elemT_eq hel) hi hz' (by rw [hsize];omega) hpos (by rw [hsize];exact h1)
      simp only [execOp,ho];rw [Sem.run_bind]
      erw [hrun]
      rfl
     ·rw [<- hsz]
      exact Xz (by omega) fun j u hj=>by
       have hlt:j<oc.size:=by rw [h2];exact (List.getElem?_eq_some_iff.1 hj).1
       exact ⟨oc.getD j undef,by simp [hlt],h3 j u hj⟩
    ·exact h.elim
   ·exact h.elim
  ·exact h.elim
def bytesT(P:Program)(t:TypeId):Option Nat:=(P.info? t).map (·.bytes)
theorem info_parts'{P:Program}{el:TypeId}{bb:Bool}{k by_:Nat}{z:Value}(hk:Yu P el=some (bb,k))(hb:bytesT P el=some by_)(hz:Xp P el=some z):
  ∃ i,P.info? el=some i/\i.zero=some z/\i.size=k/\i.bytes=by_:=by
 obtain ⟨i,hi,hz'⟩:=Option.bind_eq_some_iff.1 hz;refine ⟨i,hi,hz',?_,?_⟩
 ·have:=Ya hk (default:World)
  simp [sizeOf,typeInfo,hi] at this;exact this
 ·simpa [bytesT,hi] using hb
def mcells(z:Value)(c k:Nat):List AV:=(List.range (c*k)).map fun i=>(Yr z).getD (i % k) default
def amakeSlice(P:Program)(t:TypeId)(l c:AV)(s:Hp)(K:AV->Hp->Prop):Prop:=
 match l,c with
 | .v (.int _ l),.v (.int _ c) =>
  match Xn P t with
  | some el =>
   match Yu P el,bytesT P el,Xp P el with
   | some (_,k),some by_,some z =>
    0<k/\z.cells.size=k/\0<=l/\l<=c/\(by_:Int)*c<=281474976710656/\c<=9223372036854775807 /\
    ∀ b,b∉s.keys->K (.v (.slice (some ⟨b,0,none⟩) l.toNat c.toNat)) ((b,.cells el (mcells z c.toNat k) (c.toNat*k))::s)
   | _,_,_=>False
  | none=>False
 | _,_=>False
theorem OpS.makeSlice{P:Program}{e:Env}{s:Hp}{K:AV->Hp->Prop}{o:Oper}(t:TypeId)(l c:Operand)(ho:o.op=.makeSlice t l c)(h:amakeSlice P t (ev e l) (ev e c) s K):OpS P o e s K:=
 OpS.run fun n I w a he hs=>by
  have hl:=he.ev l;have hc:=he.ev c;unfold amakeSlice at h
  split at h
  ·rename_i q1 q2 kl ll kc cc e1 e2
   rw [e1] at hl;rw [e2] at hc
   split at h
   ·rename_i el hel
    split at h
    ·rename_i bb k by_ z hk hb hz
     obtain ⟨hk0,hzk,h0,h1,h2,h3,h⟩:=h
     obtain ⟨i,hi,hz',hsi,hby⟩:=info_parts' hk hb hz;obtain ⟨r1,r2⟩:=zrow (n:=cc.toNat*k) hk0 hzk I;have hrun:=run_make (P:=P) w t el i z (elemT_eq hel) hi hz' kl kc ll cc h0 h1 (by rw [hby];exact h2) h3
     refine ⟨_,_,_,I,_,?_,.v _,hs.alloc (.cells (madeCells z.cells (cc.toNat*i.size)) el) (.cells el (((List.range (cc.toNat*k)).map fun i=>(Yr z).getD (i % k) default)) (cc.toNat*k)) ?_,Ext.alloc I s w _ _,h w.heap.size hs.fresh_key⟩
     ·simp only [execOp,ho,hl.of_v,hc.of_v]
      rw [Sem.run_bind,hrun];rfl
     ·rw [hsi]
      have hsz:(madeCells z.cells (cc.toNat*k)).size=cc.toNat*k:=by simp [madeCells]
      have:=Xz (I:=I) (w:=w) (t:=el) (us:=((List.range (cc.toNat*k)).map fun i=>(Yr z).getD (i % k) default)) (c:=madeCells z.cells (cc.toNat*k)) (by rw [hsz];simp) (fun j u hj=>by
       have hlt:j<(madeCells z.cells (cc.toNat*k)).size:=by rw [hsz];have:=(List.getElem?_eq_some_iff.1 hj).1;simpa using this
       exact ⟨(madeCells z.cells (cc.toNat*k)).getD j undef,by simp [hlt],r2 j u hj⟩)
      rw [hsz] at this;exact this
    ·exact h.elim
   ·exact h.elim
  ·exact h.elim
def strAV(y:ByteArray):List AV:=y.data.toList.map fun b=>.v (.int .u8 (b.toNat:Int))
def srcOf(k:Nat)(x:AV)(s:Hp):Option (Nat × List AV):=
 match x with
 | .sl k' xs=>if k'=k then some (xs.length,xs.flatMap cellsOf) else none
 | .v (.slice none 0 _)=>some (0,[])
 | .v (.slice (some ⟨b,off,none⟩) n _) =>
  match s.get b with
  | some (.cells _ cs _)=>if off+n*k<=cs.length then some (n,(cs.drop off).take (n*k)) else none
  | _=>none
 | _=>none
theorem flatMap_get{k:Nat}:∀ {xs:List AV} (h:∀ (i:Nat) (x:AV),xs[i]? = some x->(cellsOf x).length=k) (j:Nat) (u:AV),(xs.flatMap cellsOf)[j]? = some u ->
  ∃ i r x,j=i*k+r/\xs[i]? = some x/\(cellsOf x)[r]? = some u
 | [],h,j,u,hj=>by simp at hj
 | x::xs,h,j,u,hj=>by
  have hx:=h 0 x rfl;rw [List.flatMap_cons,List.getElem?_append] at hj
  split at hj
  ·exact ⟨0,j,x,by simp,rfl,hj⟩
  ·rename_i hge
   obtain ⟨i,r,y,h1,h2,h3⟩:=flatMap_get (fun i y hy=>h (i+1) y hy) _ u hj
   exact ⟨i+1,r,y,by rw [Nat.add_mul,Nat.one_mul];omega,h2,h3⟩
theorem flatMap_length{k:Nat}:∀ {xs:List AV} (h:∀ (i:Nat) (x:AV),xs[i]? = some x->(cellsOf x).length=k),(xs.flatMap cellsOf).length=xs.length*k
 | [],h=>by simp
 | x::xs,h=>by
  rw [List.flatMap_cons,List.length_append,flatMap_length (fun i y hy=>h (i+1) y hy),h 0 x rfl,List.length_cons,Nat.add_mul];omega
theorem srcOf_rel{k:Nat}{x:AV}{s:Hp}{m:Nat}{news:List AV}{I:Imm}{w:World}{vx:Value}(h:srcOf k x s=some (m,news))(hs:Rel I s w)(hx:RV I vx x):
  news.length=m*k/\((m=0/\∃ c,vx=.slice none 0 c) ∨
   ∃ (ad:Addr) (c:Nat) (xs:List Value),vx=.slice (some ad) m c/\xs.length=news.length/\(∀ (j:Nat) (v:Value),xs[j]? = some v->w.cell? (ad.add j)=some v) /\
    (∀ (j:Nat) (v:Value) (u:AV),xs[j]? = some v->news[j]? = some u->RV I v u)):=by
 unfold srcOf at h
 split at h
 ·rename_i k' xs
  split at h
  ·rename_i hkk;subst hkk
   simp only [Option.some.injEq,Prod.mk.injEq] at h;obtain ⟨rfl,rfl⟩:=h
   cases hx with
   | sl a n c k xs f hn hc hb hl ha hm hr =>
    refine ⟨flatMap_length hl,?_⟩
    by_cases hne:xs=[]
    ·subst hne
     simp at hn;subst hn
     cases a with
     | none=>exact .inl ⟨rfl,c,rfl⟩
     | some ad=>exact .inr ⟨ad,c,[],rfl,rfl,fun j v h=>by simp at h,fun j v u h=>by simp at h⟩
    ·obtain ⟨ad,rfl,hsp⟩:=ha hne
     obtain ⟨vs,h1,h2,h3⟩:=V3 (I:=I) (us:=xs.flatMap cellsOf) (f:=fun j x=>w.cell? ⟨ad.block,ad.off+j,none⟩=some x) (fun j u hj=>by
      obtain ⟨i,r,x,rfl,q1,q2⟩:=flatMap_get hl j u hj;exact ⟨f i r,Imm.cell_world hs (hm i x r u ad q1 q2 rfl),hr i x r u q1 q2⟩)
     subst hn;exact .inr ⟨ad,c,vs,rfl,h1,fun j v hj=>by rw [add_spot hsp];exact h2 j v hj,h3⟩
  ·simp at h
 ·obtain rfl:=hx.of_v
  simp at h;obtain ⟨rfl,rfl⟩:=h
  exact ⟨by simp,.inl ⟨rfl,_,rfl⟩⟩
 ·rename_i b off n c
  obtain rfl:=hx.of_v
  split at h
  ·rename_i e cs size hg
   split at h
   ·rename_i hle
    simp only [Option.some.injEq,Prod.mk.injEq] at h;obtain ⟨rfl,rfl⟩:=h
    obtain ⟨cc,hc⟩:=hs.obj _ _ (Hp.get_mem hg);obtain ⟨vs,h1,h2,h3⟩:=V3 (I:=I) (us:=(cs.drop off).take (n*k)) (f:=fun j x=>w.cell? ⟨b,off+j,none⟩=some x) (fun j u hj=>by
     rw [List.getElem?_take] at hj
     split at hj
     ·rw [List.getElem?_drop] at hj;exact hc.cell? hj
     ·simp at hj)
    exact ⟨by simp;omega,.inr ⟨_,_,vs,rfl,h1,fun j v hj=>by rw [add_none];exact h2 j v hj,h3⟩⟩
   ·simp at h
  ·simp at h
 ·simp at h
def Hp.del(s:Hp)(b:Nat):Hp:=s.filter (fun p=>p.1 != b)
theorem Hp.del_sub(s:Hp)(b:Nat)(p:Nat × AObj)(h:p∈s.del b):p∈s:=(List.mem_filter.1 h).1
theorem Hp.del_key(s:Hp)(b:Nat):b∉(s.del b).keys:=by
 intro h;obtain ⟨p,hp,rfl⟩:=List.mem_map.1 h;have:=(List.mem_filter.1 hp).2;simp at this
theorem Hp.del_nodup{s:Hp}(b:Nat)(h:s.keys.Nodup):(s.del b).keys.Nodup:=h.sublist (List.Sublist.map _ List.filter_sublist)
theorem Hp.del_keys_sub{s:Hp}{b k:Nat}(h:k∈(s.del b).keys):k∈s.keys/\k≠b:=by
 obtain ⟨p,hp,rfl⟩:=List.mem_map.1 h;obtain ⟨h1,h2⟩:=List.mem_filter.1 hp;exact ⟨List.mem_map.2 ⟨p,h1,rfl⟩,by simpa using h2⟩
def aappend(P:Program)(t:TypeId)(x y:AV)(s:Hp)(K:AV->Hp->Prop):Prop:=
 match Xn P t with
 | some el =>
  match Yu P el,bytesT P el,Xp P el with
  | some (_,k),some by_,some z =>
   0<k/\0<by_/\z.cells.size=k /\
   match srcOf k y s with
   | some (m,news) =>
    news.all AV.one=true /\
    match x with
    | .v (.slice none 0 0) =>
     m*by_<=140737488355328/\(m=0->K (.v (.slice none 0 0)) s) /\
     (m≠0->∀ b cap,b∉s.keys->m<=cap->cap<=maxLen->K (.v (.slice (some ⟨b,0,none⟩) m cap)) ((b,.cells el news (cap*k))::s))
    | .v (.slice (some ⟨b,0,none⟩) n c) =>
     match s.get b with
     | some (.cells e' cs size)=>e'=el/\n<=c/\c<=maxLen/\size=c*k/\(n+m)*by_<=140737488355328 /\
      ((cs.length=n*k/\∀ b' cap',b'∉(s.del b).keys->n+m<=cap'->cap'<=maxLen->K (.v (.slice (some ⟨b',0,none⟩) (n+m) cap')) ((b',.cells el (cs++news) (cap'*k))::s.del b)) ∨
       ((n+m)*k<=cs.length/\K (.v (.slice (some ⟨b,0,none⟩) (n+m) c)) (s.set b (.cells el (splice cs (n*k) news) size))))
     | _=>False
    | _=>False
   | none=>False
  | _,_,_=>False
 | none=>False
theorem grown_rel{I:Imm}{s:Hp}{w:World}(hs:Rel I s w)(el:TypeId)(xs:List Value)(us:List AV)(extra:Array Value)(size:Nat)(hl:xs.length=us.length)(hr:∀ (j:Nat) (v:Value) (u:AV),xs[j]? = some v->us[j]? = some u->RV I v u)(hsz:xs.length+extra.size=size):
  Rel I ((w.heap.size,.cells el us size)::s) (w.drew.alloc (.cells (xs.toArray++extra) el))/\Ext I s w I ((w.heap.size,.cells el us size)::s) (w.drew.alloc (.cells (xs.toArray++extra) el)):=by
 have hsz':(xs.toArray++extra).size=size:=by simp;omega
 constructor
 ·refine hs.drew.alloc _ _ ?_
  have:=Xz (I:=I) (w:=w.drew) (t:=el) (us:=us) (c:=xs.toArray++extra) (by rw [hsz'];omega) (fun j u hj=>by
   have hlt:j<xs.length:=by rw [hl];exact (List.getElem?_eq_some_iff.1 hj).1
   refine ⟨xs[j],?_,hr j _ u (by simp [hlt]) hj⟩
   rw [Array.getElem?_append_left (by simpa using hlt)]
   simp [hlt])
  rw [hsz'] at this;exact this
 ·exact (Ext.drew I s w).trans (Ext.alloc I s w.drew _ _)
theorem all_one{I:Imm}{xs:List Value}{us:List AV}(hl:xs.length=us.length)(hr:∀ (j:Nat) (v:Value) (u:AV),xs[j]? = some v->us[j]? = some u->RV I v u)(h:us.all AV.one=true):∀ v∈xs,v.oneCell'=true:=by
 intro v hv;obtain ⟨j,hj,rfl⟩:=List.getElem_of_mem hv;have hj':j<us.length:=by omega
 exact (hr j _ _ (by simp [hj]) (List.getElem?_eq_getElem hj')).one (List.all_eq_true.1 h _ (List.getElem_mem hj'))
theorem OpS.append{P:Program}{e:Env}{s:Hp}{K:AV->Hp->Prop}{o:Oper}(t:TypeId)(x y:Operand)(ho:o.op=.call { callee:=.builtin .append,args:=#[x,y],argTypes:=#[t,t] })(h:aappend P t (ev e x) (ev e y) s K):OpS P o e s K:=
 OpS.run fun n I w a he hs=>by
  have hx:=he.ev x;have hy:=he.ev y;have go:∀ v w',(Builtin.append_ #[t,t] o.type #[a.eval x,a.eval y]).run P w=.ok v w'->(execOp a.eval o).run P w=.ok (.value v) w':=by
   intro v w' hv;simp [execOp,ho,resolve,invoke,builtin,hv]
  unfold aappend at h
  split at h
  ·rename_i el hel
   have hu:=elemT_eq hel
   split at h
   ·rename_i bb k by_ z hk hb hz
    obtain ⟨hk0,hby0,hzk,h⟩:=h
    obtain ⟨i,hi,hz',hsi,hbi⟩:=info_parts' hk hb hz
    split at h
    ·rename_i m news hsrc
     obtain ⟨hone,h⟩:=h
     obtain ⟨hnl,hsrc'⟩:=srcOf_rel hsrc hs hy;have hml:m<=m*by_:=Nat.le_mul_of_pos_right _ hby0
     split at h
     ·rename_i hxe
      rw [hxe] at hx;obtain ⟨hbd,h0,h1⟩:=h
      rcases hsrc' with ⟨rfl,c,hyv⟩ | ⟨ad,c,xs,hyv,hl,hcell,hr⟩
      ·refine ⟨_,_,_,I,w,go (.slice none 0 0) w ?_,.v _,hs,Ext.refl _ _ _,h0 rfl⟩
       rw [hx.of_v,hyv];simp [Builtin.append_,run_underlying hu,sizeOf,typeInfo,hi,Builtin.lenOf,Builtin.firstCells]
      ·by_cases hm:m=0
       ·subst hm
        refine ⟨_,_,_,I,w,go (.slice none 0 0) w ?_,.v _,hs,Ext.refl _ _ _,h0 rfl⟩;rw [hx.of_v,hyv];simp [Builtin.append_,run_underlying hu,sizeOf,typeInfo,hi,Builtin.lenOf,Builtin.firstCells,loadCells,loadCellsFrom]
       ·have hrun:=run_append_nil (P:=P) w t o.type el i z hu hi hz' ad m c xs (by rw [hl,hnl,hsi]) hcell (by omega) (by omega) (by rw [hbi];omega)
        have hcap:=grownCap_ge w m 0 el;have hcap2:=grownCap_le_maxLen w m 0 el (by simp only [maxLen];omega)
        obtain ⟨g1,g2⟩:=grown_rel hs el xs news (Builtin.zeroCells z.cells (grownCap w m 0 el-m)) (grownCap w m 0 el*k) hl hr (by
         rw [size_zeroCells,hzk,hl,hnl,<- Nat.add_mul];congr 1;omega)
        exact ⟨_,_,_,I,_,go _ _ (by rw [hx.of_v,hyv];exact hrun),.v _,g1,g2,h1 hm w.heap.size _ hs.fresh_key hcap hcap2⟩
     ·rename_i b nn c hxe
      rw [hxe] at hx
      split at h
      ·rename_i e' cs size hg
       obtain ⟨rfl,hnc,hcm,hsize,hbd,hK⟩:=h
       have hmem:=Hp.get_mem hg;obtain ⟨cc,hc⟩:=hs.obj _ _ hmem;have hkey:=Hp.get_key hg;have hml2:nn+m<=(nn+m)*by_:=Nat.le_mul_of_pos_right _ hby0
       rcases hK with ⟨hcl,hK⟩ | ⟨hfit,hK⟩
       ·
        have hsrc2:∃ v' w' b' cap',(Builtin.append_ #[t,t] o.type #[.slice (some ⟨b,0,none⟩) nn c,a.eval y]).run P w=.ok v' w'/\v'=.slice (some ⟨b',0,none⟩) (nn+m) cap' /\
          b'∉(s.del b).keys/\nn+m<=cap'/\cap'<=maxLen/\Rel I ((b',.cells e' (cs++news) (cap'*k))::s.del b) w'/\Ext I s w I ((b',.cells e' (cs++news) (cap'*k))::s.del b) w':=by
         have inplace:∀ (xs:List Value),xs.length=news.length->(∀ (j:Nat) (v:Value) (u:AV),xs[j]? = some v->news[j]? = some u->RV I v u)->nn+m<=c ->
           Rel I ((b,.cells e' (cs++news) (c*k))::s.del b) (w.setRow b (splice cc.toList (nn*k) xs).toArray)/\Ext I s w I ((b,.cells e' (cs++news) (c*k))::s.del b) (w.setRow b (splice cc.toList (nn*k) xs).toArray):=by
          intro xs hl hr hroom;have hfit:nn*k+news.length<=size:=by rw [hnl,hsize,<- Nat.add_mul];exact Nat.mul_le_mul_right _ hroom
          have hw:=hc.write (nn*k) xs news hl hr (by omega) hfit
          have hcs2:(if nn*k+news.length<=cs.length then splice cs (nn*k) news else cs.take (nn*k)++news)=cs++news:=by
           rw [<- hcl]
           split
           ·rename_i hle
            have:news=[]:=List.eq_nil_of_length_eq_zero (by omega)
            subst this;simp [splice]
           ·simp
          rw [hcs2,hsize] at hw;have r1:=setRow_rel hs hkey (.cells e' (cs++news) (c*k)) _ ⟨_,hw⟩;have r2:=setRow_ext (I:=I) (w:=w) hkey (.cells e' (cs++news) (c*k)) (splice cc.toList (nn*k) xs).toArray;have hsub:∀ p,p∈(b,AObj.cells e' (cs++news) (c*k))::s.del b->p∈s.set b (.cells e' (cs++news) (c*k)):=by
           intro p hp
           rcases List.mem_cons.1 hp with rfl | hp
           ·exact List.mem_map.2 ⟨_,hmem,by simp⟩
           ·obtain ⟨h1,h2⟩:=List.mem_filter.1 hp
            exact List.mem_map.2 ⟨p,h1,by rw [if_neg (by simpa using h2)]⟩
          exact ⟨r1.sub hsub (List.nodup_cons.2 ⟨Hp.del_key s b,Hp.del_nodup b hs.nodup⟩),r2.sub hsub⟩
         rcases hsrc' with ⟨rfl,c2,hyv⟩ | ⟨ad,c2,xs,hyv,hl,hcell,hr⟩
         ·have hnews:news=[]:=List.eq_nil_of_length_eq_zero (by simpa using hnl)
          subst hnews;obtain ⟨g1,g2⟩:=inplace [] rfl (fun j v u h=>by simp at h) (by omega)
          have hself:w.setRow b (splice cc.toList (nn*k) []).toArray=w:=by
           have:(splice cc.toList (nn*k) []).toArray=cc:=by simp [splice]
           rw [this,setRow_self w b cc e' (0,0) hc.block]
          rw [hself] at g1 g2;refine ⟨_,w,b,c,?_,rfl,Hp.del_key s b,by omega,hcm,g1,g2⟩
          rw [hyv];simp [Builtin.append_,run_underlying hu,sizeOf,typeInfo,hi,Builtin.lenOf,Builtin.firstCells,hnc,storeCells]
         ·by_cases hroom:nn+m<=c
          ·obtain ⟨g1,g2⟩:=inplace xs hl hr hroom
           have hone':=all_one hl hr hone;have hrun:=run_append_room (P:=P) w t o.type e' i hu hi b nn c cc hc.block ad m c2 xs (by rw [hl,hnl,hsi]) hcell hone' hroom (by
            rw [hl,hnl,hsi,<- Nat.add_mul,hc.full,hsize];exact Nat.mul_le_mul_right _ hroom)
           refine ⟨_,_,b,c,by rw [hyv];exact hrun,rfl,Hp.del_key s b,hroom,hcm,?_,?_⟩
           ·rw [hsi];simpa [splice] using g1
           ·rw [hsi];simpa [splice] using g2
          ·obtain ⟨olds,ol,oc,orr⟩:=V3 (I:=I) (us:=cs) (f:=fun j x=>w.cell? ⟨b,0+j,none⟩=some x) (fun j u hj=>by rw [Nat.zero_add];exact hc.cell? hj)
           have hrun:=run_append_grow (P:=P) w t o.type e' i z hu hi hz' ⟨b,0,none⟩ nn c olds (by rw [ol,hcl,hsi]) (fun j v hj=>by rw [add_none];exact oc j v hj) ad m c2 xs (by rw [hl,hnl,hsi]) hcell (by omega) (by omega) (by
            rw [hbi];exact growslice_fits (by omega) hbd)
           have hcap:=grownCap_ge w (nn+m) c e';have hcap2:=grownCap_le_maxLen w (nn+m) c e' (by simp only [maxLen];omega)
           have happ:olds.toArray++xs.toArray=(olds++xs).toArray:=by simp
           obtain ⟨g1,g2⟩:=grown_rel hs e' (olds++xs) (cs++news) (Builtin.zeroCells z.cells (grownCap w (nn+m) c e'-(nn+m))) (grownCap w (nn+m) c e'*k) (by simp [ol,hl]) (fun j v u hj hu=>by
            rw [List.getElem?_append] at hj hu
            split at hj
            ·rename_i h1
             rw [if_pos (by omega)] at hu
             exact orr j v u hj hu
            ·rename_i h1
             rw [if_neg (by omega),<- ol] at hu
             exact hr _ v u hj hu) (by
            rw [size_zeroCells,hzk,List.length_append,ol,hl,hcl,hnl,<- Nat.add_mul,<- Nat.add_mul];congr 1;omega)
           have hsub:∀ p,p∈(w.heap.size,AObj.cells e' (cs++news) (grownCap w (nn+m) c e'*k))::s.del b->p∈(w.heap.size,AObj.cells e' (cs++news) (grownCap w (nn+m) c e'*k))::s:=by
            intro p hp
            rcases List.mem_cons.1 hp with rfl | hp
            ·exact List.mem_cons_self
            ·exact List.mem_cons_of_mem _ (Hp.del_sub s b p hp)
           have hfk:w.heap.size∉(s.del b).keys:=fun hk'=>hs.fresh_key (Hp.del_keys_sub hk').1
           refine ⟨_,_,w.heap.size,_,by rw [hyv,hrun,happ],rfl,hfk,hcap,hcap2,?_,?_⟩
           ·exact g1.sub hsub (List.nodup_cons.2 ⟨hfk,Hp.del_nodup b hs.nodup⟩)
           ·exact g2.sub hsub
        obtain ⟨v',w',b',cap',q1,rfl,q3,q4,q5,q6,q7⟩:=hsrc2;exact ⟨_,_,_,I,w',go _ _ (by rw [hx.of_v];exact q1),.v _,q6,q7,hK b' cap' q3 q4 q5⟩
       ·have hroom:nn+m<=c:=by
         have h1:=hc.le;rw [hsize] at h1;exact Nat.le_of_mul_le_mul_right (Nat.le_trans hfit h1) hk0
        have key:∀ xs:List Value,xs.length=news.length->(∀ (j:Nat) (v:Value) (u:AV),xs[j]? = some v->news[j]? = some u->RV I v u) ->
          Rel I (s.set b (.cells e' (splice cs (nn*k) news) size)) (w.setRow b (splice cc.toList (nn*k) xs).toArray)/\Ext I s w I (s.set b (.cells e' (splice cs (nn*k) news) size)) (w.setRow b (splice cc.toList (nn*k) xs).toArray):=by
         intro xs hl hr;have hf2:nn*k+news.length<=cs.length:=by rw [hnl,<- Nat.add_mul];exact hfit
         have hw:=hc.write (nn*k) xs news hl hr (by omega) (Nat.le_trans hf2 hc.le)
         rw [if_pos hf2] at hw;exact ⟨setRow_rel hs hkey _ _ ⟨_,hw⟩,setRow_ext (I:=I) (w:=w) hkey _ (splice cc.toList (nn*k) xs).toArray⟩
        rcases hsrc' with ⟨rfl,c2,hyv⟩ | ⟨ad,c2,xs,hyv,hl,hcell,hr⟩
        ·have hnews:news=[]:=List.eq_nil_of_length_eq_zero (by simpa using hnl)
         subst hnews;obtain ⟨g1,g2⟩:=key [] rfl (fun j v u h=>by simp at h)
         have hself:w.setRow b (splice cc.toList (nn*k) []).toArray=w:=by
          have:(splice cc.toList (nn*k) []).toArray=cc:=by simp [splice]
          rw [this,setRow_self w b cc e' (0,0) hc.block]
         rw [hself] at g1 g2;refine ⟨_,_,_,I,w,go (.slice (some ⟨b,0,none⟩) (nn+0) c) w ?_,.v _,g1,g2,hK⟩;rw [hx.of_v,hyv];simp [Builtin.append_,run_underlying hu,sizeOf,typeInfo,hi,Builtin.lenOf,Builtin.firstCells,hnc,storeCells]
        ·obtain ⟨g1,g2⟩:=key xs hl hr
         have hrun:=run_append_room (P:=P) w t o.type e' i hu hi b nn c cc hc.block ad m c2 xs (by rw [hl,hnl,hsi]) hcell (all_one hl hr hone) hroom (by
          rw [hl,hnl,hsi,<- Nat.add_mul,hc.full,hsize];exact Nat.mul_le_mul_right _ hroom)
         refine ⟨_,_,_,I,_,go _ _ (by rw [hx.of_v,hyv];exact hrun),.v _,?_,?_,hK⟩
         ·rw [hsi];simpa [splice] using g1
         ·rw [hsi];simpa [splice] using g2
      ·exact h.elim
     ·exact h.elim
    ·exact h.elim
   ·exact h.elim
  ·exact h.elim
def bytesU:List AV->Option (List Int)
 | []=>some []
 | .v (.int .u8 n)::l=>(bytesU l).map (n::·)
 | _=>none
theorem bytesU_eq:∀ {l:List AV} {ns:List Int},bytesU l=some ns->l=ns.map fun n=>.v (.int .u8 n)
 | [],ns,h=>by simp [bytesU] at h;subst h;rfl
 | x::l,ns,h=>by
  unfold bytesU at h
  split at h
  ·rename_i he;simp at he
  ·rename_i n l' he
   obtain ⟨rfl,rfl⟩:=List.cons.inj he;obtain ⟨ms,hm,rfl⟩:=Option.map_eq_some_iff.1 h;rw [bytesU_eq hm];rfl
  ·simp at h
def aconv(P:Program)(src dst:TypeId)(x:AV)(s:Hp)(K:AV->Prop):Prop:=
 match intT P dst with
 | some _=>aconvInt P src dst x K
 | none =>
  match Xn P src with
  | some el=>intT P el=some .u8/\isStrT P dst=true /\
   match srcOf 1 x s with
   | some (_,news) =>
    match bytesU news with
    | some ns=>K (.v (.string (strOfNums ns)))
    | none=>False
   | none=>False
  | none=>False
theorem OpS.conv{P:Program}{e:Env}{s:Hp}{K:AV->Hp->Prop}{o:Oper}(src dst:TypeId)(x:Operand)(ho:o.op=.convert src dst x)(h:aconv P src dst (ev e x) s (fun r=>K r s)):OpS P o e s K:=by
 unfold aconv at h
 split at h
 ·exact OpS.convInt src dst x ho h
 ·split at h
  ·rename_i el hel
   obtain ⟨hu8,hstr,h⟩:=h
   split at h
   ·rename_i m news hsrc
    split at h
    ·rename_i ns hns
     refine OpS.pure fun n I w a he hs=>?_
     have hx:=he.ev x;have hnews:=bytesU_eq hns;obtain ⟨hl,hv⟩:=srcOf_rel hsrc hs hx;have run:∀ v,(convert src dst (a.eval x)).run P w=.ok v w->(execOp a.eval o).run P w=.ok (.value v) w:=fun v hr=>by simp [execOp,ho,hr]
     rcases hv with ⟨rfl,c,hv⟩ | ⟨ad,c,xs,hv,hxl,hcell,hr⟩
     ·have:ns=[]:=by
       have:news=[]:=List.eq_nil_of_length_eq_zero (by simpa using hl)
       rw [this] at hnews
       cases ns with
       | nil=>rfl
       | cons a b=>simp at hnews
      subst this;refine ⟨_,_,run _ (by rw [hv];exact run_convert_bytes_nil w src el (elemT_eq hel) (intT_eq hu8) 0 c dst (isStrT_eq hstr)),.v _,h⟩
     ·have hxs:xs=ns.map (Value.int .u8):=by
       apply List.ext_getElem?;intro j
       rcases Nat.lt_or_ge j xs.length with hj | hj
       ·have h1:=List.getElem?_eq_getElem hj
        have h2:news[j]? = some (.v (.int .u8 (ns.getD j 0))):=by
         rw [hnews,List.getElem?_map,List.getElem?_eq_getElem (show j<ns.length by rw [hnews] at hxl;simp at hxl;omega)]
         simp [List.getD,List.getElem?_eq_getElem (show j<ns.length by rw [hnews] at hxl;simp at hxl;omega)]
        have h3:=(hr j _ _ h1 h2).of_v;rw [h1,h3,List.getElem?_map,List.getElem?_eq_getElem (show j<ns.length by rw [hnews] at hxl;simp at hxl;omega)]
        simp [List.getD,List.getElem?_eq_getElem (show j<ns.length by rw [hnews] at hxl;simp at hxl;omega)]
       ·rw [List.getElem?_eq_none hj,List.getElem?_eq_none]
        rw [hnews] at hxl;simp at hxl ⊢;omega
      have hm:m=xs.length:=by rw [hxl,hl];omega
      have hld:=run_loadCells_list (P:=P) w ad xs hcell;rw [hxs] at hld;have hlen:(ns.map (Value.int .u8)).length=m:=by rw [<- hxs,hm]
      rw [hlen] at hld;refine ⟨_,_,run (.string (strOfNums ns)) ?_,.v _,h⟩;rw [hv,run_convert_bytes_string w src dst el _ m c (elemT_eq hel) (intT_eq hu8) (isStrT_eq hstr),run_bytesToString w ad m c ns hld,foldl_push_bytes];simp [strOfNums,ByteArray.empty,ByteArray.emptyWithCapacity]
      rfl
    ·exact h.elim
   ·exact h.elim
  ·exact h.elim
def acopySrc(x:AV)(s:Hp):Option (Nat × List AV):=
 match x with
 | .v (.string y)=>some (y.size,strAV y)
 | x=>srcOf 1 x s
def acopy(P:Program)(t:TypeId)(x y:AV)(s:Hp)(K:AV->Hp->Prop):Prop:=
 match Xn P t with
 | some el =>
  match Yu P el,acopySrc y s with
  | some (_,1),some (m,news) =>
   news.all AV.one=true /\
   match x with
   | .v (.slice none n _)=>n=0/\K (.v (.int .i64 0)) s
   | .v (.slice (some ⟨b,off,none⟩) n c) =>
    match s.get b with
    | some (.cells e' cs size)=>off+min m n<=cs.length/\K (.v (.int .i64 (min m n:Nat))) (s.set b (.cells e' (splice cs off (news.take (min m n))) size))
    | _=>False
   | _=>False
  | _,_=>False
 | none=>False
theorem run_copy_cells'{P:Program}{w:World}{dT sT ty el:TypeId}{g o dLen dCap m:Nat}{cur:Array Value}{t:TypeId}{cs:List Value}{src:Value}(hu:P.underlying dT=some (.slice el))(hsz:∀ w,(sizeOf el).run P w=.ok 1 w)(hg:w.heap[g]? = some (.cells cur t (0,0)))(hlen:(Builtin.lenOf src).run P w=.ok m w)(hcells:(Builtin.firstCells 1 (min m dLen) src).run P w=.ok cs.toArray w)(hn:cs.length=min m dLen)(hfit:o+cs.length<=cur.size)(h1:∀ v∈cs,v.oneCell'=true):
  (Builtin.copy_ #[dT,sT] ty #[.slice (some ⟨g,o,none⟩) dLen dCap,src]).run P w=.ok (goInt (min m dLen:Nat)) (w.setRow g (splice cur.toList o cs).toArray):=by
 have hst:=run_storeCells_at P g o t cs 0 cur w hg (by simpa using hfit) h1
 simp only [Nat.add_zero] at hst;have hmin:Nat.min m dLen=min m dLen:=rfl;simp [Builtin.copy_,run_underlying hu,hlen,hsz,hmin,hcells,hst,splice]
theorem OpS.copy{P:Program}{e:Env}{s:Hp}{K:AV->Hp->Prop}{o:Oper}(t t2:TypeId)(x y:Operand)(ho:o.op=.call { callee:=.builtin .copy,args:=#[x,y],argTypes:=#[t,t2] })(h:acopy P t (ev e x) (ev e y) s K):OpS P o e s K:=
 OpS.run fun n I w a he hs=>by
  have hx:=he.ev x;have hy:=he.ev y;have go:∀ v w',(Builtin.copy_ #[t,t2] o.type #[a.eval x,a.eval y]).run P w=.ok v w'->(execOp a.eval o).run P w=.ok (.value v) w':=by
   intro v w' hv;simp [execOp,ho,resolve,invoke,builtin,hv]
  unfold acopy at h
  split at h
  ·rename_i el hel
   have hu:=elemT_eq hel
   split at h
   ·rename_i bb m news hk hsrc
    obtain ⟨hone,h⟩:=h
    have hsz:∀ w,(sizeOf el).run P w=.ok 1 w:=fun w=>Ya hk w
    have src:news.length=m/\(∃ c,m=0/\a.eval y=.slice none 0 c)∨news.length=m/\(Builtin.lenOf (a.eval y)).run P w=.ok m w/\∃ xs:List Value,xs.length=news.length/\(∀ (j:Nat) (v:Value) (u:AV),xs[j]? = some v->news[j]? = some u->RV I v u) /\
      ∀ q,q<=m->(Builtin.firstCells 1 q (a.eval y)).run P w=.ok (xs.take q).toArray w:=by
     unfold acopySrc at hsrc
     split at hsrc
     ·rename_i st hye
      rw [hye] at hy;simp only [Option.some.injEq,Prod.mk.injEq] at hsrc;obtain ⟨rfl,rfl⟩:=hsrc;refine .inr ⟨by simp [strAV],by rw [hy.of_v];simp [Builtin.lenOf],st.data.toList.map (fun b=>.int .u8 (b.toNat:Int)),by simp [strAV],fun j v u hj hu=>?_,fun q hq=>?_⟩
      ·unfold strAV at hu
       rw [List.getElem?_map] at hj hu;obtain ⟨c,hc,rfl⟩:=Option.map_eq_some_iff.1 hj;rw [hc] at hu;simp at hu;subst hu;exact .v _
      ·rw [hy.of_v]
       have hq':q<=st.data.size:=hq;simp only [Builtin.firstCells,Sem.run_pure]
       congr 1
       apply Array.ext';simp [ByteArray.data_extract,List.map_take]
     ·obtain ⟨h1,h2⟩:=srcOf_rel hsrc hs hy
      rcases h2 with ⟨rfl,c,hv⟩ | ⟨ad,c,xs,hv,hl,hc,hr⟩
      ·exact .inl ⟨by simpa using h1,c,rfl,hv⟩
      ·refine .inr ⟨by simpa using h1,by rw [hv];simp [Builtin.lenOf],xs,hl,hr,fun q hq=>?_⟩
       rw [hv];have:=run_loadCells_list (P:=P) w ad (xs.take q) (fun j v hj=>by
        rw [List.getElem?_take] at hj
        split at hj
        ·exact hc j v hj
        ·simp at hj)
       have hl2:(xs.take q).length=q:=by rw [List.length_take];omega
       rw [hl2] at this;simpa [Builtin.firstCells] using this
    split at h
    ·rename_i n2 c2 hxe
     rw [hxe] at hx;obtain ⟨rfl,hK⟩:=h
     refine ⟨_,_,_,I,w,go (goInt 0) w ?_,.v _,hs,Ext.refl _ _ _,hK⟩;rw [hx.of_v]
     rcases src with ⟨h1,c,rfl,hv⟩ | ⟨h1,h2,xs,h3,h4,h5⟩
     ·rw [hv];simp [Builtin.copy_,run_underlying hu,Builtin.lenOf,Builtin.firstCells,hsz]
     ·have:=h5 0 (by omega)
      simp [Builtin.copy_,run_underlying hu,h2,hsz,this]
    ·rename_i b off n2 c2 hxe
     rw [hxe] at hx
     split at h
     ·rename_i e' cs size hg
      obtain ⟨hfit,hK⟩:=h
      obtain ⟨cc,hc⟩:=hs.obj _ _ (Hp.get_mem hg);have hkey:=Hp.get_key hg;have hlecs:=hc.le;have hfull:=hc.full
      rcases src with ⟨h1,c,rfl,hv⟩ | ⟨h1,h2,xs,h3,h4,h5⟩
      ·have hnews:news=[]:=List.eq_nil_of_length_eq_zero h1
       subst hnews;have hset:s.set b (.cells e' (splice cs off (List.take (min 0 n2) [])) size)=s.set b (.cells e' cs size):=by simp [splice]
       have hw:=hc.write off [] [] rfl (fun j v u h=>by simp at h) (by simpa using hfit) (by simp at hfit ⊢;omega)
       have hself:w.setRow b (splice cc.toList off []).toArray=w:=by
        have:(splice cc.toList off []).toArray=cc:=by simp [splice]
        rw [this,setRow_self w b cc e' (0,0) hc.block]
       have hcs:(if off+([]:List AV).length<=cs.length then splice cs off [] else cs.take off++[])=cs:=by
        rw [if_pos (by simpa using hfit)];simp [splice]
       rw [hcs] at hw;have r1:=setRow_rel hs hkey (.cells e' cs size) _ ⟨_,hw⟩;have r2:=setRow_ext (I:=I) (w:=w) hkey (.cells e' cs size) (splice cc.toList off []).toArray;rw [hself] at r1 r2;refine ⟨_,_,_,I,w,go (goInt (min 0 n2:Nat)) w ?_,.v _,r1,r2,by rw [hset] at hK;exact hK⟩
       rw [hx.of_v,hv];simp [Builtin.copy_,run_underlying hu,Builtin.lenOf,Builtin.firstCells,hsz,storeCells]
      ·have hlt:(xs.take (min m n2)).length=min m n2:=by rw [List.length_take,h3,h1];omega
       have hln:(news.take (min m n2)).length=min m n2:=by rw [List.length_take,h1];omega
       have hr2:∀ (j:Nat) (v:Value) (u:AV),(xs.take (min m n2))[j]? = some v->(news.take (min m n2))[j]? = some u->RV I v u:=by
        intro j v u hj hu;rw [List.getElem?_take] at hj hu
        split at hj
        ·rename_i hjq
         rw [if_pos hjq] at hu;exact h4 j v u hj hu
        ·simp at hj
       have hone2:=all_one (by rw [hlt,hln]) hr2 (by
        rw [List.all_eq_true] at hone ⊢;exact fun u hu=>hone u (List.mem_of_mem_take hu))
       have hrun:=run_copy_cells' (P:=P) (sT:=t2) (ty:=o.type) (dCap:=c2) (o:=off) (cs:=xs.take (min m n2)) hu hsz hc.block h2 (h5 _ (by omega)) hlt (by rw [hlt];omega) hone2
       have hw:=hc.write off (xs.take (min m n2)) (news.take (min m n2)) (by rw [hlt,hln]) hr2 (by omega) (by rw [hln];omega)
       rw [if_pos (by rw [hln];exact hfit)] at hw
       exact ⟨_,_,_,I,_,go _ _ (by rw [hx.of_v];exact hrun),.v _,setRow_rel hs hkey (.cells e' (splice cs off (news.take (min m n2))) size) _ ⟨_,hw⟩,setRow_ext hkey _ _,hK⟩
     ·exact h.elim
    ·exact h.elim
   ·exact h.elim
  ·exact h.elim
theorem mapT_eq{P:Program}{t e:TypeId}{k:IntKind}(h:mapT P t=some (k,e)):∃ kt,P.underlying t=some (.map kt e)/\P.underlying kt=some (.int k):=by
 unfold mapT at h
 split at h
 ·rename_i kt e' hu
  obtain ⟨i,hi,he⟩:=Option.map_eq_some_iff.1 h;simp only [Prod.mk.injEq] at he;obtain ⟨rfl,rfl⟩:=he;exact ⟨kt,hu,intT_eq hi⟩
 ·simp at h
def amakeMap(P:Program)(t:TypeId)(r:Option AV)(s:Hp)(K:AV->Hp->Prop):Prop:=
 match mapT P t,Wq r with
 | some (k,_),some _=>∀ b,b∉s.keys->K (.v (.map (some b))) ((b,.imap k [])::s)
 | _,_=>False
theorem OpS.makeMap{P:Program}{e:Env}{s:Hp}{K:AV->Hp->Prop}{o:Oper}(t:TypeId)(r:Option Operand)(ho:o.op=.makeMap t r)(h:amakeMap P t (r.map (ev e)) s K):OpS P o e s K:=
 OpS.run fun n I w a he hs=>by
  unfold amakeMap at h
  split at h
  ·rename_i k el j hm hr
   obtain ⟨kt,hu,hku⟩:=mapT_eq hm;refine ⟨_,_,_,I,w.alloc (.map #[] 0),?_,.v _,hs.alloc _ (.imap k []) ?_,Ext.alloc I s w _ _,h w.heap.size hs.fresh_key⟩
   ·rcases optInt_val he r j hr with ⟨rfl,rfl⟩ | ⟨kk,jj,rfl,e1⟩
    ·simp [execOp,ho,Instr.makeMap]
    ·simp only [execOp,ho,Instr.makeMap]
     rw [e1];simp [run_underlying hu,asInt,asIntOf]
   ·exact ⟨#[],0,heap_alloc_new w _,rfl,fun j p h=>by simp at h,fun i j m n h=>by simp at h⟩
  ·exact h.elim
def mget(es:List (Int × AV))(n:Int):Option AV:=(es.find? (fun p=>p.1==n)).map (·.2)
def mset(es:List (Int × AV))(n:Int)(x:AV):List (Int × AV):=
 if es.any (fun p=>p.1==n) then es.map (fun p=>if p.1=n then (n,x) else p) else es++[(n,x)]
def mdel(es:List (Int × AV))(n:Int):List (Int × AV):=es.eraseIdx (es.findIdx (fun p=>p.1==n))
theorem findNow_none{k:IntKind}{n:Int}:∀ (l:List MapEntry) (i:Nat),(∀ (j:Nat) (m:MapEntry),l[j]? = some m->∃ q,m.key=.int k q/\q≠n)->Instr.findNow (.int k) (.int k n) l i=some none
 | [],i,h=>rfl
 | m::l,i,h=>by
  obtain ⟨q,hq,hne⟩:=h 0 m rfl;have:(n==q)=false:=by simpa using Ne.symm hne
  simp only [Instr.findNow,hq,Instr.sameNow,if_true,this];exact findNow_none l (i+1) (fun j m hj=>h (j+1) m hj)
theorem findNow_some{k:IntKind}{n:Int}:∀ (l:List MapEntry) (i j:Nat) (m:MapEntry),l[j]? = some m->m.key=.int k n->(∀ (j':Nat) (m':MapEntry),j'<j->l[j']? = some m'->∃ q,m'.key=.int k q/\q≠n) ->
  Instr.findNow (.int k) (.int k n) l i=some (some (i+j,m.val))
 | [],i,j,m,hj,hk,h=>by simp at hj
 | x::l,i,0,m,hj,hk,h=>by
  simp at hj;subst hj;simp [Instr.findNow,hk,Instr.sameNow]
 | x::l,i,j+1,m,hj,hk,h=>by
  obtain ⟨q,hq,hne⟩:=h 0 x (by omega) rfl
  have:(n==q)=false:=by simpa using Ne.symm hne
  simp only [Instr.findNow,hq,Instr.sameNow,if_true,this];rw [findNow_some l (i+1) j m hj hk (fun j' m' hj' hm'=>h (j'+1) m' (by omega) hm')]
  congr 3;omega
theorem MapRel.find{P:Program}{I:Imm}{w:World}{b:Nat}{k:IntKind}{es:List (Int × AV)}{c:Array MapEntry}{cl:Nat}(h:MapRel I w b k es c cl){kt:TypeId}(hk:P.underlying kt=some (.int k))(n:Int):
  (mget es n=none/\(∀ p∈es,p.1≠n)/\(Instr.findKey kt (.int k n) c.toList).run P w=.ok none w) ∨
  ∃ i x v,mget es n=some x/\es.findIdx (fun p=>p.1==n)=i/\i<es.length/\es[i]? = some (n,x)/\RV I v x/\(∃ m,c[i]? = some m/\m.key=.int k n/\m.val=v)/\(Instr.findKey kt (.int k n) c.toList).run P w=.ok (some (i,v)) w:=by
 have hkeys:∀ (j:Nat) (m:MapEntry),c.toList[j]? = some m->∃ p,es[j]? = some p/\m.key=.int k p.1/\RV I m.val p.2:=by
  intro j m hj;have hlt:j<es.length:=by rw [<- h.full];have:=(List.getElem?_eq_some_iff.1 hj).1;simpa using this
  obtain ⟨m',h1,h2,h3,_⟩:=h.entry j _ (List.getElem?_eq_getElem hlt);have:m=m':=by
   have h1':c.toList[j]? = some m':=by simpa using h1
   rw [h1'] at hj;injection hj with hj;exact hj.symm
  subst this;exact ⟨_,List.getElem?_eq_getElem hlt,h2,h3⟩
 by_cases hex:∃ p∈es,p.1=n
 ·right
  have hlt:es.findIdx (fun p=>p.1==n)<es.length:=by
   rw [List.findIdx_lt_length];obtain ⟨p,hp,rfl⟩:=hex;exact ⟨p,hp,by simp⟩
  have hp:=List.findIdx_getElem (w:=hlt);have hpn:es[es.findIdx (fun p=>p.1==n)].1=n:=by simpa using hp
  obtain ⟨m,h1,h2,h3,_⟩:=h.entry _ _ (List.getElem?_eq_getElem hlt);refine ⟨_,es[es.findIdx (fun p=>p.1==n)].2,m.val,?_,rfl,hlt,?_,h3,⟨m,h1,by rw [h2,hpn],rfl⟩,?_⟩
  ·unfold mget
   rw [List.find?_eq_getElem?_findIdx];simp [hlt]
  ·rw [List.getElem?_eq_getElem hlt]
   congr 1
   exact Prod.ext hpn rfl
  ·have:=findNow_some (k:=k) (n:=n) c.toList 0 (es.findIdx (fun p=>p.1==n)) m (by simpa using h1) (by rw [h2,hpn]) (fun j' m' hj' hm'=>by
    obtain ⟨p,q1,q2,q3⟩:=hkeys j' m' hm';refine ⟨p.1,q2,fun e=>?_⟩
    have hno:=List.not_of_lt_findIdx hj';have hlt':j'<es.length:=by omega
    rw [List.getElem?_eq_getElem hlt'] at q1;injection q1 with q1
    rw [q1] at hno;simp [e] at hno)
   simp [Instr.findKey,run_underlying hk,this]
 ·left
  have hno:∀ p∈es,p.1≠n:=fun p hp e=>hex ⟨p,hp,e⟩
  refine ⟨?_,hno,?_⟩
  ·unfold mget
   rw [List.find?_eq_none.2 (fun p hp=>by simpa using hno p hp)];rfl
  ·have:=findNow_none (k:=k) (n:=n) c.toList 0 (fun j m hj=>by
    obtain ⟨p,q1,q2,q3⟩:=hkeys j m hj;exact ⟨p.1,q2,hno p (List.mem_of_getElem? q1)⟩)
   simp [Instr.findKey,run_underlying hk,this]
theorem Y6{P:Program}{kt:TypeId}{k:IntKind}(hk:P.underlying kt=some (.int k))(b:Bool)(v:Value)(w:World):(Instr.checkKey b 10000 kt v).run P w=.ok () w:=by
 have:∀ d,(Instr.checkKey b (d+1) kt v).run P w=.ok () w:=fun d=>by
  simp only [Instr.checkKey,Sem.run_bind,run_underlying hk,Result.andThen_ok]
  rfl
 exact this 9999
def alookup(P:Program)(t:TypeId)(m i:AV)(commaOk:Bool)(s:Hp)(K:AV->Prop):Prop:=
 match mapT P t,i with
 | some (k,el),.v (.int k' n) =>
  k'=k /\
  match Xp P el with
  | some z =>
   match m with
   | .v (.map none)=>K (if commaOk then .tup [ofValue z,.v (.bool false)] else ofValue z)
   | .v (.map (some b)) =>
    match s.get b with
    | some (.imap k'' es)=>k''=k/\(match mget es n with
     | some x=>K (if commaOk then .tup [x,.v (.bool true)] else x)
     | none=>K (if commaOk then .tup [ofValue z,.v (.bool false)] else ofValue z))
    | _=>False
   | .mp k'' es=>k''=k/\(match mget es n with
     | some x=>K (if commaOk then .tup [x,.v (.bool true)] else x)
     | none=>K (if commaOk then .tup [ofValue z,.v (.bool false)] else ofValue z))
   | _=>False
  | none=>False
 | _,_=>False
theorem RV.mp_rel{I:Imm}{s:Hp}{w:World}(hs:Rel I s w){x:Value}{k:IntKind}{es:List (Int × AV)}(h:RV I x (.mp k es)):∃ b c cl,x=.map (some b)/\I b=some (.map c cl)/\MapRel I w b k es c cl:=by
 cases h with
 | mp b k es c cl hI hl hk hr ha =>
  refine ⟨b,c,cl,rfl,hI,hs.imm b _ hI,hl,fun j p hj=>?_,ha⟩
  have hlt:j<c.size:=by rw [hl];exact (List.getElem?_eq_some_iff.1 hj).1
  have e1:c[j]? = some (c.getD j default):=by simp [hlt]
  exact ⟨_,e1,(hk j p hj).1,hr j p hj,(hk j p hj).2⟩
theorem OpS.lookup{P:Program}{e:Env}{s:Hp}{K:AV->Hp->Prop}{o:Oper}(t:TypeId)(m i:Operand)(c:Bool)(ho:o.op=.lookup t m i c)(h:alookup P t (ev e m) (ev e i) c s (fun r=>K r s)):OpS P o e s K:=
 OpS.pure fun n I w a he hs=>by
  have hm:=he.ev m;have hi:=he.ev i;unfold alookup at h
  split at h
  ·rename_i q k el k' nn hmt hie
   rw [hie] at hi;obtain ⟨rfl,h⟩:=h
   obtain ⟨kt,hu,hku⟩:=mapT_eq hmt
   split at h
   ·rename_i z hz
    have hzr:(zeroValue el).run P w=.ok z w:=by
     obtain ⟨i',hi',hz'⟩:=Option.bind_eq_some_iff.1 hz;simp [zeroValue,typeInfo,hi',hz']
    have fin:∀ (v:Value) (x:AV) (b:Bool),RV I v x->K (if c then .tup [x,.v (.bool b)] else x) s ->
      ∃ r,RV I (if c then .tuple #[v,.bool b] else v) r/\K r s:=by
     intro v x b hr hk
     cases c
     ·exact ⟨x,hr,hk⟩
     ·exact ⟨_,hr.pair (.v (.bool b)),hk⟩
    split at h
    ·rename_i hme
     rw [hme] at hm;obtain ⟨r,h1,h2⟩:=fin z _ false (RV.ofValue I z) h;refine ⟨_,r,?_,h1,h2⟩;simp [execOp,ho,Instr.lookup,run_underlying hu,hm.of_v,hi.of_v,Y6 hku,Instr.findKey,run_underlying hku,Instr.findNow,hzr]
    ·rename_i b hme
     rw [hme] at hm
     split at h
     ·rename_i k'' es hg
      obtain ⟨rfl,h⟩:=h
      obtain ⟨cc,cl,hc⟩:=hs.obj _ _ (Hp.get_mem hg);have hgo:(getObj b).run P w=.ok (.map cc cl) w:=by simp [getObj,Sem.run,hc.block]
      rcases hc.find (P:=P) hku nn with ⟨h1,h2,h3⟩ | ⟨ii,x,v,h1,h2,h3,h4,h5,h6,h7⟩
      ·rw [h1] at h
       obtain ⟨r,r1,r2⟩:=fin z _ false (RV.ofValue I z) h;refine ⟨_,r,?_,r1,r2⟩;simp [execOp,ho,Instr.lookup,run_underlying hu,hm.of_v,hi.of_v,hgo,Y6 hku,h3,hzr]
      ·rw [h1] at h
       obtain ⟨r,r1,r2⟩:=fin v _ true h5 h;refine ⟨_,r,?_,r1,r2⟩;simp [execOp,ho,Instr.lookup,run_underlying hu,hm.of_v,hi.of_v,hgo,Y6 hku,h7]
     ·exact h.elim
    ·rename_i k'' es hme
     rw [hme] at hm;obtain ⟨rfl,h⟩:=h
     obtain ⟨b,cc,cl,hv,hI,hc⟩:=hm.mp_rel hs;have hgo:(getObj b).run P w=.ok (.map cc cl) w:=by simp [getObj,Sem.run,hc.block]
     rcases hc.find (P:=P) hku nn with ⟨h1,h2,h3⟩ | ⟨ii,x,v,h1,h2,h3,h4,h5,h6,h7⟩
     ·rw [h1] at h
      obtain ⟨r,r1,r2⟩:=fin z _ false (RV.ofValue I z) h;refine ⟨_,r,?_,r1,r2⟩;simp [execOp,ho,Instr.lookup,run_underlying hu,hv,hi.of_v,hgo,Y6 hku,h3,hzr]
     ·rw [h1] at h
      obtain ⟨r,r1,r2⟩:=fin v _ true h5 h;refine ⟨_,r,?_,r1,r2⟩;simp [execOp,ho,Instr.lookup,run_underlying hu,hv,hi.of_v,hgo,Y6 hku,h7]
    ·exact h.elim
   ·exact h.elim
  ·exact h.elim
def mput(es:List (Int × AV))(n:Int)(x:AV):List (Int × AV):=
 match mget es n with
 | some _=>es.set (es.findIdx (fun p=>p.1==n)) (n,x)
 | none=>es++[(n,x)]
def Wj(P:Program)(t:TypeId)(m i x:AV)(s:Hp)(K:Hp->Prop):Prop:=
 match mapT P t,i with
 | some (k,el),.v (.int k' n) =>
  k'=k /\
  match m with
  | .v (.map (some b)) =>
   match s.get b with
   | some (.imap k'' es)=>k''=k/\K (s.set b (.imap k (mput es n x)))
   | _=>False
  | _=>False
 | _,_=>False
theorem Rel.turnMap{I:Imm}{s:Hp}{w:World}(h:Rel I s w){b:Nat}(hb:b∈s.keys){k:IntKind}{es:List (Int × AV)}{c0 c:Array MapEntry}{cl0 cl:Nat}(h0:w.heap[b]? = some (.map c0 cl0))(ho:MapRel I { w with heap:=w.heap.setIfInBounds b (.map c cl) } b k es c cl):
  Rel I (s.set b (.imap k es)) { w with heap:=w.heap.setIfInBounds b (.map c cl) }/\Ext I s w I (s.set b (.imap k es)) { w with heap:=w.heap.setIfInBounds b (.map c cl) }:=by
 have hother:∀ j,j≠b->(w.heap.setIfInBounds b (.map c cl))[j]? = w.heap[j]?:=fun j hj=>by rw [Array.getElem?_setIfInBounds_ne (Ne.symm hj)]
 exact ⟨h.turn hb _ ⟨c,cl,ho⟩ hother,Ext.turn I s hb _ rfl rfl rfl (by simp) hother⟩
theorem run_setObj_map{P:Program}{w:World}{b:Nat}{c0:Array MapEntry}{cl0:Nat}(h0:w.heap[b]? = some (.map c0 cl0))(o:Obj):(setObj b o).run P w=.ok () { w with heap:=w.heap.setIfInBounds b o }:=by
 simp [setObj,Sem.run,h0]
theorem OpS.mapUpdate{P:Program}{e:Env}{s:Hp}{K:AV->Hp->Prop}{o:Oper}(t:TypeId)(m i x:Operand)(ho:o.op=.mapUpdate t m i x)(h:Wj P t (ev e m) (ev e i) (ev e x) s (fun s'=>K (.v undef) s')):OpS P o e s K:=
 OpS.skip fun n I w a he hs=>by
  have hm:=he.ev m;have hi:=he.ev i;have hx:=he.ev x;unfold Wj at h
  split at h
  ·rename_i q k el k' nn hmt hie
   rw [hie] at hi;obtain ⟨rfl,h⟩:=h
   obtain ⟨kt,hu,hku⟩:=mapT_eq hmt
   split at h
   ·rename_i b hme
    rw [hme] at hm
    split at h
    ·rename_i k'' es hg
     obtain ⟨rfl,hK⟩:=h
     obtain ⟨cc,cl,hc⟩:=hs.obj _ _ (Hp.get_mem hg);have hkey:=Hp.get_key hg;have hgo:(getObj b).run P w=.ok (.map cc cl) w:=by simp [getObj,Sem.run,hc.block]
     have hblk:∀ o,(w.heap.setIfInBounds b o)[b]? = some o:=fun o=>by
      have hlt:b<w.heap.size:=hs.lt hkey;simp [hlt]
     rcases hc.find (P:=P) hku nn with ⟨h1,h2,h3⟩ | ⟨ii,xx,v,h1,h2,h3,h4,h5,⟨mm,h6,h6k,h6v⟩,h7⟩
     ·have hput:mput es nn (ev e x)=es++[(nn,ev e x)]:=by unfold mput;rw [h1]
      rw [hput] at hK;obtain ⟨g1,g2⟩:=hs.turnMap (k:=k'') (es:=es++[(nn,ev e x)]) (c:=cc.push { key:=.int k'' nn,val:=a.eval x,born:=cl }) (cl:=cl+1) hkey hc.block ⟨hblk _,by simp [hc.full],fun j p hj=>by
       rw [List.getElem?_append] at hj
       split at hj
       ·rename_i hlt
        obtain ⟨m',q1,q2,q3,q4⟩:=hc.entry j p hj;refine ⟨m',?_,q2,q3,by omega⟩
        rw [Array.getElem?_push,if_neg (by rw [hc.full];omega)];exact q1
       ·rename_i hge
        have hj0:j-es.length=0:=by
         have:=(List.getElem?_eq_some_iff.1 hj).1;simp at this;omega
        rw [hj0] at hj;simp at hj;subst hj;refine ⟨{ key:=.int k'' nn,val:=a.eval x,born:=cl },?_,rfl,hx,Nat.lt_succ_self cl⟩;rw [Array.getElem?_push,if_pos (by rw [hc.full];omega)],fun p q m1 m2 hp hq heq=>by
       rw [Array.getElem?_push] at hp hq
       split at hp <;> split at hq
       ·omega
       ·rename_i e1 e2
        simp only [Option.some.injEq] at hp;subst hp;have hlt:q<es.length:=by rw [<- hc.full];exact (Array.getElem?_eq_some_iff.1 hq).1
        obtain ⟨m',q1,q2,q3,q4⟩:=hc.entry q _ (List.getElem?_eq_getElem hlt);rw [q1] at hq;injection hq with hq;subst hq
        simp only at heq;omega
       ·rename_i e1 e2
        simp only [Option.some.injEq] at hq;subst hq;have hlt:p<es.length:=by rw [<- hc.full];exact (Array.getElem?_eq_some_iff.1 hp).1
        obtain ⟨m',q1,q2,q3,q4⟩:=hc.entry p _ (List.getElem?_eq_getElem hlt);rw [q1] at hp;injection hp with hp;subst hp
        simp only at heq;omega
       ·exact hc.apart p q m1 m2 hp hq heq⟩
      refine ⟨_,I,_,?_,g1,g2,hK⟩;simp [execOp,ho,Instr.mapUpdate,run_underlying hu,hm.of_v,hi.of_v,hgo,Y6 hku,h3,run_setObj_map hc.block]
     ·have hput:mput es nn (ev e x)=es.set ii (nn,ev e x):=by unfold mput;rw [h1,h2]
      rw [hput] at hK;have hltc:ii<cc.size:=by rw [hc.full];exact h3
      have hmod:∀ j,(cc.modify ii fun m=>{ m with key:=.int k'' nn,val:=a.eval x })[j]? = if j=ii then (cc[j]?).map (fun m=>{ m with key:=.int k'' nn,val:=a.eval x }) else cc[j]?:=by
       intro j;rw [Array.getElem?_modify]
       by_cases hj:ii=j
       ·subst hj;simp
       ·rw [if_neg hj,if_neg (fun e=>hj e.symm)]
      obtain ⟨g1,g2⟩:=hs.turnMap (k:=k'') (es:=es.set ii (nn,ev e x)) (c:=cc.modify ii fun m=>{ m with key:=.int k'' nn,val:=a.eval x }) (cl:=cl) hkey hc.block ⟨hblk _,by simp [hc.full],fun j p hj=>by
       rw [List.getElem?_set] at hj;rw [hmod]
       split at hj
       ·rename_i hij
        subst hij;simp only [Option.some.injEq] at hj;subst hj;obtain ⟨m',q1,q2,q3,q4⟩:=hc.entry ii _ h4;exact ⟨{ m' with key:=.int k'' nn,val:=a.eval x },by rw [if_pos rfl,q1];rfl,rfl,hx,q4⟩
       ·rename_i hij
        obtain ⟨m',q1,q2,q3,q4⟩:=hc.entry j p hj;exact ⟨m',by rw [if_neg (fun e=>hij e.symm)];exact q1,q2,q3,q4⟩,fun p q m1 m2 hp hq heq=>by
       rw [hmod] at hp hq;have born:∀ (r:Nat) (m:MapEntry),(if r=ii then (cc[r]?).map (fun m=>{ m with key:=.int k'' nn,val:=a.eval x }) else cc[r]?)=some m->∃ m0,cc[r]? = some m0/\m0.born=m.born:=by
        intro r m hm
        split at hm
        ·obtain ⟨m0,q1,q2⟩:=Option.map_eq_some_iff.1 hm
         exact ⟨m0,q1,by rw [<- q2]⟩
        ·exact ⟨m,hm,rfl⟩
       obtain ⟨m1',q1,q2⟩:=born p m1 hp;obtain ⟨m2',q3,q4⟩:=born q m2 hq;exact hc.apart p q m1' m2' q1 q3 (by rw [q2,q4];exact heq)⟩
      refine ⟨_,I,_,?_,g1,g2,hK⟩;have hkey2:(Option.map (fun x=>x.key) cc[ii]?).getD (.int k'' nn)=.int k'' nn:=by rw [h6];simp [h6k]
      have hstay:(Instr.keyThatStays (.int k'' nn) (.int k'' nn)).run P w=.ok (.int k'' nn) w:=by
       simp [Instr.keyThatStays,Instr.sameBits]
      simp only [execOp,ho,Instr.mapUpdate];simp [run_underlying hu,hm.of_v,hi.of_v,hgo,Y6 hku,h7];rw [hkey2,hstay];simp [run_setObj_map hc.block]
    ·exact h.elim
   ·exact h.elim
  ·exact h.elim
def adelete(P:Program)(t:TypeId)(m i:AV)(s:Hp)(K:AV->Hp->Prop):Prop:=
 match mapT P t,i with
 | some (k,el),.v (.int k' n) =>
  k'=k /\
  match m with
  | .v (.map (some b)) =>
   match s.get b with
   | some (.imap k'' es)=>k''=k/\K (.v (.tuple #[])) (s.set b (.imap k (es.eraseIdx (es.findIdx (fun p=>p.1==n)))))
   | _=>False
  | _=>False
 | _,_=>False
theorem OpS.delete{P:Program}{e:Env}{s:Hp}{K:AV->Hp->Prop}{o:Oper}(t t2:TypeId)(m i:Operand)(ho:o.op=.call { callee:=.builtin .delete,args:=#[m,i],argTypes:=#[t,t2] })(h:adelete P t (ev e m) (ev e i) s K):OpS P o e s K:=
 OpS.run fun n I w a he hs=>by
  have hm:=he.ev m;have hi:=he.ev i;unfold adelete at h
  split at h
  ·rename_i q k el k' nn hmt hie
   rw [hie] at hi;obtain ⟨rfl,h⟩:=h
   obtain ⟨kt,hu,hku⟩:=mapT_eq hmt
   split at h
   ·rename_i b hme
    rw [hme] at hm
    split at h
    ·rename_i k'' es hg
     obtain ⟨rfl,hK⟩:=h
     obtain ⟨cc,cl,hc⟩:=hs.obj _ _ (Hp.get_mem hg);have hkey:=Hp.get_key hg;have hgo:(getObj b).run P w=.ok (.map cc cl) w:=by simp [getObj,Sem.run,hc.block]
     have hblk:∀ o,(w.heap.setIfInBounds b o)[b]? = some o:=fun o=>by
      have hlt:b<w.heap.size:=hs.lt hkey;simp [hlt]
     rcases hc.find (P:=P) hku nn with ⟨h1,h2,h3⟩ | ⟨ii,xx,v,h1,h2,h3,h4,h5,h6,h7⟩
     ·have hout:es.findIdx (fun p=>p.1==nn)=es.length:=by
       apply List.findIdx_eq_length.2;intro p hp;simpa using h2 p hp
      have hdel:es.eraseIdx (es.findIdx (fun p=>p.1==nn))=es:=by rw [hout];exact List.eraseIdx_of_length_le (Nat.le_refl _)
      rw [hdel] at hK;obtain ⟨g1,g2⟩:=hs.turnMap (k:=k'') (es:=es) (c:=cc) (cl:=cl) hkey hc.block ⟨hblk _,hc.full,hc.entry,hc.apart⟩;refine ⟨_,_,_,I,_,?_,.v _,g1,g2,hK⟩;simp [execOp,ho,resolve,invoke,builtin,Builtin.delete_,run_underlying hu,hm.of_v,hi.of_v,hgo,Y6 hku,h3,run_setObj_map hc.block]
     ·rw [h2] at hK
      have hltc:ii<cc.size:=by rw [hc.full];exact h3
      have herase:∀ j,(cc.eraseIdxIfInBounds ii)[j]? = if j<ii then cc[j]? else cc[j+1]?:=by
       intro j;rw [Array.eraseIdxIfInBounds,dif_pos hltc,Array.getElem?_eraseIdx]
      have hes:∀ j,(es.eraseIdx ii)[j]? = if j<ii then es[j]? else es[j+1]?:=fun j=>List.getElem?_eraseIdx ..
      obtain ⟨g1,g2⟩:=hs.turnMap (k:=k'') (es:=es.eraseIdx ii) (c:=cc.eraseIdxIfInBounds ii) (cl:=cl) hkey hc.block ⟨hblk _,by
        rw [Array.eraseIdxIfInBounds,dif_pos hltc,Array.size_eraseIdx,List.length_eraseIdx_of_lt h3,hc.full],fun j p hj=>by
       rw [hes] at hj;rw [herase]
       split at hj
       ·rename_i hjl
        rw [if_pos hjl];exact hc.entry j p hj
       ·rename_i hjl
        rw [if_neg hjl];exact hc.entry _ p hj,fun p q m1 m2 hp hq heq=>by
       rw [herase] at hp hq
       split at hp <;> split at hq
       ·exact hc.apart p q m1 m2 hp hq heq
       ·have:=hc.apart _ _ m1 m2 hp hq heq;omega
       ·have:=hc.apart _ _ m1 m2 hp hq heq;omega
       ·have:=hc.apart _ _ m1 m2 hp hq heq;omega⟩
      refine ⟨_,_,_,I,_,?_,.v _,g1,g2,hK⟩;simp [execOp,ho,resolve,invoke,builtin,Builtin.delete_,run_underlying hu,hm.of_v,hi.of_v,hgo,Y6 hku,h7,run_setObj_map hc.block]
    ·exact h.elim
   ·exact h.elim
  ·exact h.elim
def arange(P:Program)(t:TypeId)(x:AV)(s:Hp)(K:AV->Hp->Prop):Prop:=
 isMapT P t=true /\
 match x with
 | .v (.map none)=>∀ b,b∉s.keys->K (.v (.pointer (some ⟨b,0,none⟩))) ((b,.iter .i64 [] none)::s)
 | .mp k es=>∀ b,b∉s.keys->K (.v (.pointer (some ⟨b,0,none⟩))) ((b,.iter k es none)::s)
 | _=>False
theorem OpS.range{P:Program}{e:Env}{s:Hp}{K:AV->Hp->Prop}{o:Oper}(t:TypeId)(x:Operand)(ho:o.op=.range t x)(h:arange P t (ev e x) s K):OpS P o e s K:=
 OpS.run fun n I w a he hs=>by
  have hx:=he.ev x;obtain ⟨hm,h⟩:=h
  obtain ⟨kt,el,hu⟩:=isMapT_eq hm
  split at h
  ·rename_i hxe
   rw [hxe] at hx;refine ⟨_,_,_,I,_,by simp only [execOp,ho,hx.of_v,Sem.run_bind,run_range_nilMap w t kt el hu,Result.andThen_ok,Sem.run_pure];rfl,.v _,hs.alloc _ (.iter .i64 [] none) ?_,Ext.alloc I s w _ _,h _ hs.fresh_key⟩
   exact .inl ⟨0,#[],0,heap_alloc_new w _,rfl,rfl⟩
  ·rename_i k es hxe
   rw [hxe] at hx;obtain ⟨b,c,cl,hv,hI,hc⟩:=hx.mp_rel hs;refine ⟨_,_,_,I,_,by simp only [execOp,ho,hv,Sem.run_bind,run_range_map w t kt el b c cl hu hc.block,Result.andThen_ok,Sem.run_pure];rfl,.v _,hs.alloc _ (.iter k es none) ?_,Ext.alloc I s w _ _,h _ hs.fresh_key⟩
   have ent:∀ (j:Nat) (m:MapEntry),c[j]? = some m->∃ p,es[j]? = some p/\m.key=.int k p.1/\RV I m.val p.2/\m.born<cl:=by
    intro j m hj;have hlt:j<es.length:=by rw [<- hc.full];exact (Array.getElem?_eq_some_iff.1 hj).1
    obtain ⟨m',h1,h2,h3,h4⟩:=hc.entry j _ (List.getElem?_eq_getElem hlt);rw [h1] at hj;injection hj with hj;subst hj
    exact ⟨_,List.getElem?_eq_getElem hlt,h2,h3,h4⟩
   refine .inr ⟨b,c,cl,#[],heap_alloc_new w _,hI,fun j m hj=>(ent j m hj).elim fun p hp=>hp.2.2.2,hc.apart,⟨c.toList,?_,by simp [hc.full],fun j m p hj hp=>?_⟩,fun p hp=>by simp at hp⟩
   ·simp
   ·obtain ⟨q,h1,h2,h3,_⟩:=ent j m (by simpa using hj)
    rw [h1] at hp;injection hp with hp;subst hp
    exact ⟨h2,h3⟩
  ·exact h.elim
def anext(x:AV)(isStr:Bool)(s:Hp)(K:AV->Hp->Prop):Prop:=
 isStr=false /\
 match x with
 | .v (.pointer (some ⟨b,0,none⟩)) =>
  match s.get b with
  | some (.iter k rest cur) =>
   (rest=[]->K (.tup [.v (.bool false)]) s) /\
   ∀ (i:Nat) (p:Int × AV),rest[i]? = some p->K (.tup [.v (.bool true),.v (.int k p.1),p.2]) (s.set b (.iter k (rest.eraseIdx i) (some p)))
  | _=>False
 | _=>False
theorem filter_push_seen(c:List MapEntry)(seen:Array Nat)(m:MapEntry)(hap:∀ (i j:Nat) (p q:MapEntry),c[i]? = some p->c[j]? = some q->p.born=q.born->i=j):
  ∀ (ms:List MapEntry) (i:Nat),c.filter (fun e=>!seen.contains e.born)=ms->ms[i]? = some m->c.filter (fun e=>!(seen.push m.born).contains e.born)=ms.eraseIdx i:=by
 have e1:∀ e:MapEntry,(!(seen.push m.born).contains e.born)=((!seen.contains e.born)&&!(e.born==m.born)):=by
  intro e;have:(seen.push m.born).contains e.born=(seen.contains e.born||(e.born==m.born)):=by
   rw [Bool.eq_iff_iff];simp [Array.mem_push]
  rw [this];simp
 intro ms i hms hi;have e2:c.filter (fun e=>!(seen.push m.born).contains e.born)=ms.filter (fun e=>!(e.born==m.born)):=by
  rw [<- hms,List.filter_filter];apply List.filter_congr;intro e _;rw [e1,Bool.and_comm]
 rw [e2];have hnd:ms.Pairwise (fun p q=>p.born≠q.born):=by
  have hc:c.Pairwise (fun p q=>p.born≠q.born):=by
   rw [List.pairwise_iff_getElem];intro i j hi hj hij h;have:=hap i j _ _ (List.getElem?_eq_getElem hi) (List.getElem?_eq_getElem hj) h;omega
  rw [<- hms];exact hc.sublist List.filter_sublist
 clear hms e2
 induction ms generalizing i with
 | nil=>simp at hi
 | cons x ms ih =>
  obtain ⟨h1,h2⟩:=List.pairwise_cons.1 hnd
  cases i with
  | zero =>
   simp at hi;subst hi;simp only [List.filter_cons,beq_self_eq_true,Bool.not_true,Bool.false_eq_true,if_false,List.eraseIdx_cons_zero];apply List.filter_eq_self.2;intro e he;have:=h1 e he;simpa using fun h=>this h.symm
  | succ i =>
   have hm:m∈ms:=List.mem_of_getElem? (by simpa using hi)
   have hx:(x.born==m.born)=false:=by simpa using h1 m hm
   simp only [List.filter_cons,hx,Bool.not_false,if_true,List.eraseIdx_cons_succ];rw [ih i (by simpa using hi) h2]
theorem OpS.next{P:Program}{e:Env}{s:Hp}{K:AV->Hp->Prop}{o:Oper}(x:Operand)(isStr:Bool)(ho:o.op=.next x isStr)(h:anext (ev e x) isStr s K):OpS P o e s K:=
 OpS.run fun n I w a he hs=>by
  have hx:=he.ev x;obtain ⟨rfl,h⟩:=h
  split at h
  ·rename_i b hxe
   rw [hxe] at hx
   split at h
   ·rename_i k rest cur hg
    have hob:=hs.obj _ _ (Hp.get_mem hg);have hkey:=Hp.get_key hg;obtain ⟨h0,h1⟩:=h
    have over:∀ (cs:Array Value),RV I (.tuple #[.bool false]) (.tup [.v (.bool false)]):=fun _=>.tup _ _ rfl fun j u hj=>by
     match j with
     | 0=>simp at hj;subst hj;exact .v _
     | j+1=>simp at hj
    rcases hob with ⟨since,seen,stepped,q1,q2,q3⟩ | ⟨r,c,cl,seen,q1,q2,q3,q4,⟨ms,q5,q6,q7⟩,q8⟩
    ·refine ⟨_,_,_,I,w,?_,over #[],hs,Ext.refl _ _ _,h0 q2⟩
     simp only [execOp,ho,hx.of_v,Instr.next,getObj,Sem.run_bind,Sem.run,q1,Result.andThen]
     rfl
    ·have hblk:=hs.imm r _ q2
     have hold:∀ e∈c.toList,e.born<cl:=fun e he=>by
      obtain ⟨j,hj⟩:=List.getElem?_of_mem he;exact q3 j e (by simpa using hj)
     have hms:c.filter (fun e=>!seen.contains e.born)=ms.toArray:=by rw [<- q5]
     have hmem:∀ e∈ms,e.born<cl:=fun e he=>by
      have:e∈(c.filter fun e=>!seen.contains e.born).toList:=by rw [q5];exact he
      exact hold e (by simp at this ⊢;exact this.1)
     have e1:ms.toArray.filter (fun x=>decide (x.born<cl))=ms.toArray:=by
      rw [Array.filter_eq_self];intro x hx;simpa using hmem x (by simpa using hx)
     have e2:ms.toArray.filter (fun x=>decide (x.born≥cl)) = #[]:=by
      rw [Array.filter_eq_empty_iff];intro x hx;have:=hmem x (by simpa using hx)
      simp;omega
     have htest:=next_test_false seen c cl cl hold (Nat.le_refl _)
     cases hr:rest with
     | nil =>
      subst hr;have:ms=[]:=List.eq_nil_of_length_eq_zero (by simpa using q6)
      subst this;refine ⟨_,_,_,I,w,?_,over #[],hs,Ext.refl _ _ _,h0 rfl⟩;simp only [execOp,ho,hx.of_v,Instr.next,getObj,Sem.run_bind,Sem.run,q1,hblk,Result.andThen,htest,Bool.false_eq_true,if_false,hms,e1,e2];simp [choose,Sem.run,Question.forced]
     | cons p0 rest' =>
      have hne:ms.length≠0:=by rw [q6,hr];simp
      have hch:∃ (j:Nat) (w1:World),j<ms.length/\(w1=w∨w1=w.drew)/\(choose (Question.mapNext ms.length)).run P w=.ok j w1:=by
       by_cases hf:ms.length<=1
       ·exact ⟨0,w,by omega,.inl rfl,by simp [choose,Sem.run,Question.forced,hf]⟩
       ·exact ⟨_,w.drew,Nat.mod_lt _ (by omega),.inr rfl,by
         simp only [choose,Sem.run,Question.forced,decide_eq_true_eq,hf,if_false,Question.cut]
         rfl⟩
      obtain ⟨j,w1,hj,hw1,hrun⟩:=hch;have hjr:j<rest.length:=by omega
      obtain ⟨g1,g2⟩:=q7 j ms[j] rest[j] (List.getElem?_eq_getElem hj) (List.getElem?_eq_getElem hjr);have hs1:Rel I s w1:=by rcases hw1 with rfl | rfl;exact hs;exact hs.drew
      have hx1:Ext I s w I s w1:=by rcases hw1 with rfl | rfl;exact Ext.refl _ _ _;exact Ext.drew I s w
      have hheap:w1.heap=w.heap:=by rcases hw1 with rfl | rfl <;> rfl
      have hother:∀ kk,kk≠b->(w1.putObj b (.mapIter (some r) cl (seen.push ms[j].born) cl)).heap[kk]? = w1.heap[kk]?:=fun kk hkk=>World.putObj_heap_other hkk
      have hlt:b<w1.heap.size:=hs1.lt hkey;have hself:(w1.putObj b (.mapIter (some r) cl (seen.push ms[j].born) cl)).heap[b]? = some (.mapIter (some r) cl (seen.push ms[j].born) cl):=World.putObj_heap_same hlt;have hset:(setObj b (.mapIter (some r) cl (seen.push ms[j].born) cl)).run P w1=.ok () (w1.putObj b (.mapIter (some r) cl (seen.push ms[j].born) cl)):=by
       simp only [setObj,Sem.run,hheap,q1,World.putObj]
      have hobj:ObjRel I (w1.putObj b (.mapIter (some r) cl (seen.push ms[j].born) cl)) b (.iter k (rest.eraseIdx j) (some rest[j])):=by
       refine .inr ⟨r,c,cl,seen.push ms[j].born,hself,q2,q3,q4,⟨ms.eraseIdx j,?_,?_,fun i m p hi hp=>?_⟩,fun p hp=>?_⟩
       ·rw [Array.toList_filter]
        exact filter_push_seen c.toList seen ms[j] (fun i j p q hp hq=>q4 i j p q (by simpa using hp) (by simpa using hq)) ms j (by rw [<- Array.toList_filter];exact q5) (List.getElem?_eq_getElem hj)
       ·rw [List.length_eraseIdx_of_lt hj,List.length_eraseIdx_of_lt hjr,q6]
       ·rw [List.getElem?_eraseIdx] at hi hp
        split at hi
        ·rename_i hij;rw [if_pos hij] at hp;exact q7 i m p hi hp
        ·rename_i hij;rw [if_neg hij] at hp;exact q7 _ m p hi hp
       ·injection hp with hp;subst hp
        have hin:ms[j]∈c:=by
         have:ms[j]∈(c.filter fun e=>!seen.contains e.born).toList:=by rw [q5];exact List.getElem_mem hj
         simp at this;exact this.1
        exact ⟨ms[j],hin,by simp,g1,g2⟩
      refine ⟨.tuple #[.bool true,ms[j].key,ms[j].val],_,_,I,w1.putObj b (.mapIter (some r) cl (seen.push ms[j].born) cl),?_,?_,hs1.turn hkey _ hobj hother,hx1.trans (Ext.turn I s hkey _ rfl rfl rfl World.putObj_size hother),h1 j rest[j] (List.getElem?_eq_getElem hjr)⟩
      ·have hemp:ms.toArray.isEmpty=false:=by
        cases hms':ms with
        | nil=>rw [hms'] at hne;simp at hne
        | cons x l=>rfl
       have hgo1:(getObj b).run P w=.ok (.mapIter (some r) cl seen cl) w:=by simp [getObj,Sem.run,q1]
       have hgo2:(getObj r).run P w=.ok (.map c cl) w:=by simp [getObj,Sem.run,hblk]
       obtain ⟨L,hL,hLs,hLj⟩:∃ L:Array MapEntry,L=ms.toArray/\L.size=ms.length/\L[j]? = some ms[j]:=⟨_,rfl,by simp,by simp [hj]⟩
       rw [<- hL] at hms e1 e2 hemp;rw [<- hLs] at hrun;simp only [execOp,ho,hx.of_v,Instr.next,Sem.run_bind,hgo1,hgo2,Result.andThen_ok,htest,Bool.false_eq_true,if_false,hms,e1,e2,hemp,Array.append_empty,Array.empty_append,Array.size_map,hrun,
        Array.getElem?_map,hLj,Option.map_some,hset,Sem.run_pure]
      ·refine .tup _ _ rfl fun i u hi=>?_
       match i with
       | 0=>simp at hi;subst hi;exact .v _
       | 1=>simp at hi;subst hi;simp;rw [g1];exact .v _
       | 2=>simp at hi;subst hi;simpa using g2
       | i+3=>simp at hi
   ·exact h.elim
  ·exact h.elim
def aentry(x:AV)(s:Hp)(K:AV->Prop):Prop:=
 match x with
 | .v (.pointer (some ⟨b,0,none⟩)) =>
  match s.get b with
  | some (.iter k rest (some p))=>K (.tup [.v (.int k p.1),p.2])
  | _=>False
 | _=>False
theorem OpS.entry{P:Program}{e:Env}{s:Hp}{K:AV->Hp->Prop}{o:Oper}(x:Operand)(ho:o.op=.entry x)(h:aentry (ev e x) s (fun r=>K r s)):OpS P o e s K:=
 OpS.pure fun n I w a he hs=>by
  have hx:=he.ev x;unfold aentry at h
  split at h
  ·rename_i b hxe
   rw [hxe] at hx
   split at h
   ·rename_i k rest p hg
    have hob:=hs.obj _ _ (Hp.get_mem hg)
    rcases hob with ⟨since,seen,stepped,q1,q2,q3⟩ | ⟨r,c,cl,seen,q1,q2,q3,q4,q5,q8⟩
    ·simp at q3
    ·obtain ⟨m,h1,h2,h3,h4⟩:=q8 p rfl
     have hblk:=hs.imm r _ q2;have hgo1:(getObj b).run P w=.ok (.mapIter (some r) cl seen cl) w:=by simp [getObj,Sem.run,q1]
     have hgo2:(getObj r).run P w=.ok (.map c cl) w:=by simp [getObj,Sem.run,hblk]
     have hnd:(c.toList.map (·.born)).Nodup:=by
      rw [List.Nodup,List.pairwise_map,List.pairwise_iff_getElem];intro i j hi hj hij h;have:=q4 i j _ _ (by first | simp | simpa using List.getElem?_eq_getElem hi) (by first | simp | simpa using List.getElem?_eq_getElem hj) h
      omega
     have hf:c.find? (·.born==m.born)=some m:=by rw [<- Array.find?_toList];exact find_born m c.toList hnd (by simpa using h1)
     refine ⟨.tuple #[m.key,m.val],_,?_,?_,h⟩
     ·simp only [execOp,ho,hx.of_v,Instr.entry,Sem.run_bind,hgo1,hgo2,Result.andThen_ok,h2,bne_self_eq_false,Bool.false_eq_true,if_false,hf,Sem.run_pure]
     ·rw [h3];exact (RV.v _).pair h4
   ·exact h.elim
  ·exact h.elim
structure RVs (I:Imm) (vs:Array Value) (as:List AV):Prop where
 len:vs.size=as.length
 rv:∀ (j:Nat) (u:AV),as[j]? = some u->RV I (vs.getD j undef) u
def CallOk(P:Program)(f:FuncId)(vs:Array Value)(w:World)(R:Value->World->Prop):Prop:=
 ((callFunc f vs).run P w=.ok (.enter f vs) w/\Calls P f vs w fun e w'=>∃ v,e=.returned v/\R v w') ∨
 ∃ v w',(callFunc f vs).run P w=.ok (.value v) w'/\R v w'
theorem CallOk.mono{P:Program}{f:FuncId}{vs:Array Value}{w:World}{R S:Value->World->Prop}(h:CallOk P f vs w R)(hr:∀ v w',R v w'->S v w'):CallOk P f vs w S:=by
 rcases h with ⟨h1,h2⟩ | ⟨v,w',h1,h2⟩
 ·exact .inl ⟨h1,h2.mono fun e w' ⟨v,q1,q2⟩=>⟨v,q1,hr v w' q2⟩⟩
 ·exact .inr ⟨v,w',h1,hr v w' h2⟩
def Meets(P:Program)(f:FuncId)(as:List AV)(s:Hp)(K:AV->Hp->Prop):Prop:=
 ∀ I w vs,Rel I s w->RVs I vs as->CallOk P f vs w fun v w'=>∃ r t J,K r t/\Rel J t w'/\RV J v r/\Ext I s w J t w'
theorem Meets.mono{P:Program}{f:FuncId}{as:List AV}{s:Hp}{K L:AV->Hp->Prop}(h:Meets P f as s K)(hk:∀ r t,K r t->L r t):Meets P f as s L:=
 fun I w vs hs ha=>(h I w vs hs ha).mono fun v w' ⟨r,t,J,h2,h3⟩=>⟨r,t,J,hk r t h2,h3⟩
theorem OpS.call_of{P:Program}{e:Env}{s:Hp}{K:AV->Hp->Prop}{o:Oper}{f:FuncId}{as:List AV}(hr:∀ n I w a,EnvRel I n a e->Rel I s w->∃ vs,(execOp a.eval o).run P w=(callFunc f vs).run P w/\RVs I vs as)(h:Meets P f as s K):OpS P o e s K:=by
 intro n I w a he hs next Q hn;obtain ⟨vs,h1,h2⟩:=hr n I w a he hs
 rcases h I w vs hs h2 with ⟨hcall,hc⟩ | ⟨v,w',hcall,r,t,J,q1,q2,q3,q4⟩
 ·simp only [Oper.wp,h1,hcall,Oper.upon_enter]
  refine hc.mono ?_
  rintro e' w' ⟨v,rfl,r,t,J,q1,q2,q3,q4⟩;exact hn v r t J w' q3 q2 q4 q1
 ·simp only [Oper.wp,h1,hcall,Oper.upon_value]
  exact hn v r t J w' q3 q2 q4 q1
theorem RVs.map{e:Env}{I:Imm}{n:Fr}{a:Act}(he:EnvRel I n a e)(xs:Array Operand):RVs I (xs.map a.eval) (xs.toList.map (ev e)):=by
 refine ⟨by simp,fun j u hj=>?_⟩
 rw [List.getElem?_map] at hj;obtain ⟨x,hx,rfl⟩:=Option.map_eq_some_iff.1 hj;have:(xs.map a.eval).getD j undef=a.eval x:=by
  have hx':xs[j]? = some x:=by simpa using hx
  simp [hx']
 rw [this];exact he.ev x
theorem OpS.call{P:Program}{e:Env}{s:Hp}{K:AV->Hp->Prop}{o:Oper}(f:FuncId)(args:Array Operand)(ts:Array TypeId)(ho:o.op=.call { callee:=.value (.func f),args:=args,argTypes:=ts })(h:Meets P f (args.toList.map (ev e)) s K):OpS P o e s K:=
 OpS.call_of (fun n I w a he hs=>⟨args.map a.eval,by simp [execOp,ho,resolve,Deferred.ofValue,invoke,Act.eval],RVs.map he args⟩) h
theorem RVs.append{I:Imm}{vs ws:Array Value}{as bs:List AV}(h:RVs I vs as)(k:RVs I ws bs):RVs I (vs++ws) (as++bs):=by
 refine ⟨by simp [h.len,k.len],fun j u hj=>?_⟩
 rw [List.getElem?_append] at hj
 split at hj
 ·rename_i hlt
  have:=h.rv j u hj;have e1:(vs++ws).getD j undef=vs.getD j undef:=by
   simp only [Array.getD_eq_getD_getElem?];rw [Array.getElem?_append_left (by rw [h.len];exact hlt)]
  rw [e1];exact this
 ·rename_i hge
  have:=k.rv _ u hj;have e1:(vs++ws).getD j undef=ws.getD (j-as.length) undef:=by
   simp only [Array.getD_eq_getD_getElem?];rw [Array.getElem?_append_right (by rw [h.len];omega),h.len]
  rw [e1];exact this
theorem RVs.flat(I:Imm)(vs:Array Value):RVs I vs (vs.toList.map .v):=by
 refine ⟨by simp,fun j u hj=>?_⟩
 rw [List.getElem?_map] at hj;obtain ⟨x,hx,rfl⟩:=Option.map_eq_some_iff.1 hj;have:vs.getD j undef=x:=by
  have hx':vs[j]? = some x:=by simpa using hx
  simp [hx']
 rw [this];exact .v x
theorem OpS.callValue{P:Program}{e:Env}{s:Hp}{K:AV->Hp->Prop}{o:Oper}(x:Operand)(args:Array Operand)(ts:Array TypeId)(ho:o.op=.call { callee:=.value x,args:=args,argTypes:=ts })(f:FuncId)(first caps:Array Value)(hx:ev e x=.v (.func (.func f) first caps))(h:Meets P f (first.toList.map .v++args.toList.map (ev e)++caps.toList.map .v) s K):OpS P o e s K:=
 OpS.call_of (fun n I w a he hs=>by
  have hv:=he.ev x;rw [hx] at hv;exact ⟨first++args.map a.eval++caps,by simp [execOp,ho,resolve,Deferred.ofValue,invoke,hv.of_v],((RVs.flat I first).append (RVs.map he args)).append (RVs.flat I caps)⟩) h
def MethT(P:Program)(t:TypeId)(m:String)(f:FuncId):Prop:=∀ v w,(method (P.types.size+Made.depth) t v m).run P w=.ok (f,v) w
def ameth(P:Program)(t:TypeId)(m:String)(K:FuncId->Prop):Prop:=∃ f,MethT P t m f/\K f
theorem ameth_eq{P:Program}{t:TypeId}{m:String}{f:FuncId}(h:MethT P t m f)(K:FuncId->Prop):ameth P t m K=K f:=
 propext ⟨fun ⟨g,h1,h2⟩=>by
  have e1:=h .nilIface default;rw [h1 .nilIface default] at e1;injection e1 with e1
  injection e1 with e1
  rw [<- e1];exact h2,fun hk=>⟨f,h,hk⟩⟩
def MethV(P:Program)(t:TypeId)(m:String)(y:Value)(f:FuncId)(z:Value):Prop:=∀ w,(method (P.types.size+Made.depth) t y m).run P w=.ok (f,z) w
def ainvoke(P:Program)(x:AV)(m:String)(as:List AV)(s:Hp)(K:AV->Hp->Prop):Prop:=
 match x with
 | .v (.iface t y)=>∃ f z,MethV P t m y f z/\Meets P f (.v z::as) s K
 | .ifc t y=>ameth P t m fun f=>Meets P f (y::as) s K
 | _=>False
theorem RVs.cons{I:Imm}{v:Value}{vs:Array Value}{u:AV}{as:List AV}(h:RV I v u)(k:RVs I vs as):RVs I (#[v]++vs) (u::as):=by
 have:RVs I #[v] [u]:=⟨rfl,fun j y hj=>by
  match j with
  | 0=>simp at hj;subst hj;exact h
  | j+1=>simp at hj⟩
 exact this.append k
theorem OpS.invoke{P:Program}{e:Env}{s:Hp}{K:AV->Hp->Prop}{o:Oper}(r:Operand)(m:String)(args:Array Operand)(ts:Array TypeId)(ho:o.op=.call { callee:=.invoke r m,args:=args,argTypes:=ts })(h:ainvoke P (ev e r) m (args.toList.map (ev e)) s K):OpS P o e s K:=by
 have key:∀ (ρ:Operand->Value) (w:World) (t:TypeId) (y z:Value) (f:FuncId),ρ r=.iface t y->MethV P t m y f z->(execOp ρ o).run P w=(callFunc f (#[z]++args.map ρ)).run P w:=by
  intro ρ w t y z f hr hm;have e1:(#[ρ r]++args.map ρ).extract 1 (#[ρ r]++args.map ρ).size=args.map ρ:=by
   apply Array.ext';have:args.size=(List.map ρ args.toList).length:=by simp
   simp;rw [this,List.take_length]
  have e2:(#[ρ r]++args.map ρ)[0]? = some (.iface t y):=by rw [hr];rw [Array.getElem?_append_left (by simp)];rfl
  have hmw:=hm w;simp only [execOp,ho,resolve,Sem.run_bind,Sem.run_pure,Result.andThen_ok];unfold Go.invoke;simp only [e2,callMethod,Sem.run_bind,run_program,Result.andThen_ok,hmw,e1]
 unfold ainvoke at h
 split at h
 ·rename_i t y hx
  obtain ⟨f,z,hm,h⟩:=h
  refine OpS.call_of (fun n I w a he hs=>⟨#[z]++args.map a.eval,?_,(RVs.cons (.v z) (RVs.map he args))⟩) h
  have hv:=he.ev r;rw [hx] at hv;exact key _ w t y z f hv.of_v hm
 ·rename_i t u hx
  obtain ⟨f,hm,h⟩:=h
  intro n I w a he hs;have hv:=he.ev r;rw [hx] at hv;generalize hy:a.eval r=y at hv
  cases hv with
  | ifc t x u hr =>
   refine OpS.call_of (e:=e) (K:=K) (as:=u::args.toList.map (ev e)) (f:=f) ?_ h n I w a he hs;intro n2 I2 w2 a2 he2 hs2;have hv2:=he2.ev r;rw [hx] at hv2;generalize hy2:a2.eval r=y2 at hv2
   cases hv2 with
   | ifc t x2 u hr2=>exact ⟨#[x2]++args.map a2.eval,key _ w2 t x2 x2 f hy2 (hm x2),RVs.cons hr2 (RVs.map he2 args)⟩
 ·exact h.elim
theorem Meets.extern{P:Program}{f:FuncId}{fn:Func}{E:Array Value->Sem Value}{as:List AV}{s:Hp}{K:AV->Hp->Prop}(hf:P.funcs[f]? = some fn)(hname:(fn.name == "runtime.NumGoroutine")=false)(hb:fn.body.isNone=true)(hn:Extern.findNext fn=none)(he:Extern.find fn=some E)(h:∀ I w vs,Rel I s w->RVs I vs as->∃ v w' r t J,(E vs).run P w=.ok v w'/\K r t/\Rel J t w'/\RV J v r/\Ext I s w J t w'):Meets P f as s K:=by
 intro I w vs hs ha;obtain ⟨v,w',r,t,J,h1,h2⟩:=h I w vs hs ha;refine .inr ⟨v,w',?_,r,t,J,h2⟩;rw [run_callFunc_extern hf hname hb hn he,h1];rfl
def fw(ro:Option Nat):Fence:={ Fence.wide with round:=ro }
def isDefer:Op->Bool
 | .defer _=>true
 | _=>false
theorem op_wpIn{P:Program}{o:Oper}{a:Act}{w:World}{next:Act->World->Prop}{Q:Exit->Act->World->Prop}(ro:Option Nat)(k:Nat)(hd:isDefer o.op=false)(h:o.wp P a w next Q):o.wpIn (fw ro) k P a w next Q:=by
 refine ⟨fun _ _=>trivial,?_⟩
 rw [Oper.semAt_eq _ _ _ (fun c hc=>by rw [hc] at hd;simp [isDefer] at hd)]
 unfold Oper.wp at h;generalize (execOp a.eval o).run P w=r at h ⊢;have hdep:((fw ro).depth.isSome=true->1<=k):=fun h=>by simp [fw,Fence.wide] at h
 cases r with
 | ok x w' =>
  cases x with
  | value v=>exact h
  | skip=>exact h
  | defer d=>exact h
  | enter f args =>
   refine ⟨hdep,?_⟩;have h':=(callsIn_wide (n:=k-1)).2 h;have h2:CallsIn (fw ro) (k-1) P f args w' _:=h';exact h2.mono fun e w'' he=>by cases e <;> exact he
  | row row args =>
   refine ⟨hdep,fun c cs _=>?_⟩
   obtain ⟨v,w'',h1,h2⟩:=h c cs;have h3:StepsIn (Machine.fenced P (fw ro)) P _ _:=stepsIn_wide.2 h2;exact ⟨v,w'',h1,h3⟩
  | _=>exact h.elim
 | halt x w'=>cases x <;> first | exact h | exact h.elim
def OpsS(P:Program)(ops:List Oper)(l:List Oper)(e:Env)(s:Hp)(K:Env->Hp->Prop):Prop:=
 ∀ ro n I w a,EnvRel I n a e->Rel I s w->(∀ o∈l,isDefer o.op=false/\∀ d,o.dst=some d->d<n.1)->∀ (Q:Exit->Act->World->Prop),
  (∀ e' t J a' w',EnvRel J n a' e'->Rel J t w'->Ext I s w J t w'->K e' t->Q .normal a' w')->wpListIn (fw ro) 0 P ops.toArray Q l a w
theorem OpsS.nil{P:Program}{ops:List Oper}{e:Env}{s:Hp}{K:Env->Hp->Prop}(h:K e s):OpsS P ops [] e s K:=
 fun ro n I w a he hs hd Q hQ=>hQ e s I a w he hs (Ext.refl _ _ _) h
theorem OpsS.cons{P:Program}{ops:List Oper}{o:Oper}{l:List Oper}{e:Env}{s:Hp}{K:Env->Hp->Prop}(hg:o.guard=none)(h:OpS P o e s fun r t=>OpsS P ops l (e.put o.dst r) t K):OpsS P ops (o::l) e s K:=by
 intro ro n I w a he hs hd Q hQ;refine wpListIn_plain hg fun K' hK'=>op_wpIn ro 0 (hd o List.mem_cons_self).1 ?_
 refine h n I w a he hs K' Q fun v r t J w' h1 h2 h3 h4=>hK' _ _ ?_
 refine h4 ro n J w' _ ((he.mono h3.imm).put o.dst (fun d hd'=>(hd o List.mem_cons_self).2 d hd') h1) h2 (fun o' ho'=>hd o' (List.mem_cons_of_mem _ ho')) Q ?_
 exact fun e' t' J' a' w'' q1 q2 q3 q4=>hQ e' t' J' a' w'' q1 q2 (h3.trans q3) q4
theorem OpsS.guarded{P:Program}{ops:List Oper}{o:Oper}{l:List Oper}{e:Env}{s:Hp}{K:Env->Hp->Prop}{j:Nat}{want:Bool}{d:Nat}{b:Bool}(hg:o.guard=some (j,want))(hj:(ops[j]?).bind (·.dst)=some d)(hd:e d=.v (.bool b))(h1:b=want->OpS P o e s fun r t=>OpsS P ops l (e.put o.dst r) t K)(h2:b≠want->OpsS P ops l (e.put o.dst (.v undef)) s K):OpsS P ops (o::l) e s K:=by
 intro ro n I w a he hs hdd Q hQ;have hwant:Region.wanted o (yielded ops.toArray a.tmps)=(b==want):=by
  have hv:=he.rv d;rw [hd] at hv;have hdn:a.tmps.getD d undef=.bool b:=hv.of_v;have:a.tmps[d]? = some (.bool b):=by
   simp only [Array.getD_eq_getD_getElem?] at hdn
   cases hq:a.tmps[d]? with
   | none=>rw [hq] at hdn;simp [undef] at hdn
   | some y=>rw [hq] at hdn;simp at hdn;rw [hdn]
  have hj':(ops.toArray[j]?).bind (·.dst)=some d:=by simpa using hj
  simp only [Region.wanted,hg,yielded,hj',Option.bind_some,this]
  cases b <;> cases want <;> rfl
 refine wpListIn_step fun K' hK'=>?_
 by_cases hb:b=want
 ·rw [if_pos (by rw [hwant];simpa using hb)]
  refine op_wpIn ro 0 (hdd o List.mem_cons_self).1 ?_
  refine h1 hb n I w a he hs K' Q fun v r t J w' h1 h2 h3 h4=>hK' _ _ ?_
  refine h4 ro n J w' _ ((he.mono h3.imm).put o.dst (fun d hd'=>(hdd o List.mem_cons_self).2 d hd') h1) h2 (fun o' ho'=>hdd o' (List.mem_cons_of_mem _ ho')) Q ?_
  exact fun e' t' J' a' w'' q1 q2 q3 q4=>hQ e' t' J' a' w'' q1 q2 (h3.trans q3) q4
 ·rw [if_neg (by rw [hwant];simpa using hb)]
  refine ⟨fun _ _=>trivial,hK' _ _ ?_⟩
  exact h2 hb ro n I w _ (he.put o.dst (fun d hd'=>(hdd o List.mem_cons_self).2 d hd') (.v _)) hs (fun o' ho'=>hdd o' (List.mem_cons_of_mem _ ho')) Q hQ
theorem yielded_undone{I:Imm}{n:Fr}{a:Act}{e:Env}{ops:List Oper}{j d:Nat}(he:EnvRel I n a e)(hj:(ops[j]?).bind (·.dst)=some d)(hd:e d=.tup []):yielded ops.toArray a.tmps j=none:=by
 have hv:=he.rv d;rw [hd] at hv;have hj':(ops.toArray[j]?).bind (·.dst)=some d:=by simpa using hj
 simp only [yielded,hj',Option.bind_some]
 cases hq:a.tmps[d]? with
 | none=>rfl
 | some y =>
  have:a.tmps.getD d undef=y:=by simp [Array.getD_eq_getD_getElem?,hq]
  rw [this] at hv
  cases hv
  rfl
theorem OpsS.undone{P:Program}{ops:List Oper}{o:Oper}{l:List Oper}{e:Env}{s:Hp}{K:Env->Hp->Prop}{j:Nat}{want:Bool}{d:Nat}(hg:o.guard=some (j,want))(hj:(ops[j]?).bind (·.dst)=some d)(hd:e d=.tup [])(h2:OpsS P ops l (e.put o.dst (.v undef)) s K):OpsS P ops (o::l) e s K:=by
 intro ro n I w a he hs hdd Q hQ;have hwant:Region.wanted o (yielded ops.toArray a.tmps)=false:=by
  simp only [Region.wanted,hg,yielded_undone he hj hd]
  rfl
 refine wpListIn_step fun K' hK'=>?_
 rw [if_neg (by rw [hwant];simp)]
 refine ⟨fun _ _=>trivial,hK' _ _ ?_⟩
 exact h2 ro n I w _ (he.put o.dst (fun d hd'=>(hdd o List.mem_cons_self).2 d hd') (.v _)) hs (fun o' ho'=>hdd o' (List.mem_cons_of_mem _ ho')) Q hQ
def Marks(J:Imm)(t:Hp)(w w':World)(ds ds':List Deferred):Prop:=
 ∃ l:List Nat,ds'=l.map (fun D=>({ target:=.collected D,args:=#[] }:Deferred))++ds/\l.Nodup/\∀ D∈l,w.heap.size<=D/\w'.heap[D]? = some (.deferred (some []))/\J D=none/\D∉t.keys
theorem Marks.refl(J:Imm)(t:Hp)(w w':World)(ds:List Deferred):Marks J t w w' ds ds:=⟨[],rfl,List.nodup_nil,fun D h=>by simp at h⟩
theorem heap_lt{w:World}{b:Nat}{o:Obj}(h:w.heap[b]? = some o):b<w.heap.size:=by
 rcases Nat.lt_or_ge b w.heap.size with h' | h'
 ·exact h'
 ·rw [Array.getElem?_eq_none h'] at h;simp at h
theorem Marks.after{J L:Imm}{t r:Hp}{w v x:World}{ds ds':List Deferred}(h:Marks J t w v ds ds')(e:Ext J t v L r x):Marks L r w x ds ds':=by
 obtain ⟨l,h1,h2,h3⟩:=h
 refine ⟨l,h1,h2,fun D hD=>?_⟩
 obtain ⟨q1,q2,q3,q4⟩:=h3 D hD;have hlt:=heap_lt q2;refine ⟨q1,(e.frame D hlt q4).trans q2,?_,fun hr=>?_⟩
 ·cases hL:L D with
  | none=>rfl
  | some o =>
   rcases e.newimm D q3 (by rw [hL];simp) with h | h
   ·omega
   ·exact absurd h q4
 ·rcases e.own D hr with h | h
  ·omega
  ·exact absurd h q4
theorem Marks.trans{J L:Imm}{t r:Hp}{w v x:World}{ds ds' ds'':List Deferred}(h:Marks J t w v ds ds')(e:Ext J t v L r x)(k:Marks L r v x ds' ds'')(hw:w.heap.size<=v.heap.size):Marks L r w x ds ds'':=by
 obtain ⟨l1,a1,a2,a3⟩:=h.after e;obtain ⟨l0,c1,c2,c3⟩:=h
 obtain ⟨l2,b1,b2,b3⟩:=k
 have hl:∀ D∈l0,D<v.heap.size:=fun D hD=>heap_lt (c3 D hD).2.1
 have hll:l1=l0:=by
  have:=a1.symm.trans c1;have h2:=List.append_cancel_right this;exact (List.map_inj_right (fun p q hpq=>by simpa using hpq)).1 h2
 refine ⟨l2++l1,by rw [b1,a1];simp,List.nodup_append.2 ⟨b2,a2,fun D hD E hE hDE=>?_⟩,fun D hD=>?_⟩
 ·subst hDE
  have:=(b3 D hD).1;have:=hl D (hll▸hE);omega
 ·rcases List.mem_append.1 hD with hD | hD
  ·obtain ⟨q1,q2⟩:=b3 D hD
   exact ⟨Nat.le_trans hw q1,q2⟩
  ·exact a3 D hD
theorem Marks.sub{J:Imm}{t t':Hp}{w v:World}{ds ds':List Deferred}(h:Marks J t w v ds ds')(hs:∀ b,b∈t'.keys->b∈t.keys):Marks J t' w v ds ds':=by
 obtain ⟨l,h1,h2,h3⟩:=h
 exact ⟨l,h1,h2,fun D hD=>by obtain ⟨q1,q2,q3,q4⟩:=h3 D hD;exact ⟨q1,q2,q3,fun h=>q4 (hs D h)⟩⟩
def InRound(ro:Option Nat)(I:Imm)(s:Hp)(w:World):Prop:=∀ l,ro=some l->(∃ r,w.heap[l]? = some (.loop r))/\l∉s.keys/\I l=none
theorem InRound.after{ro:Option Nat}{I J:Imm}{s t:Hp}{w v:World}(h:InRound ro I s w)(e:Ext I s w J t v):InRound ro J t v:=fun l hl=>by
 obtain ⟨⟨r,q1⟩,q2,q3⟩:=h l hl;have hlt:=heap_lt q1;refine ⟨⟨r,(e.frame l hlt q2).trans q1⟩,fun hk=>?_,?_⟩
 ·rcases e.own l hk with h | h
  ·omega
  ·exact q2 h
 ·cases hJ:J l with
  | none=>rfl
  | some o =>
   rcases e.newimm l q3 (by rw [hJ];simp) with h | h
   ·omega
   ·exact absurd h q2
theorem InRound.sub{ro:Option Nat}{I:Imm}{s t:Hp}{w:World}(h:InRound ro I s w)(hs:∀ b,b∈t.keys->b∈s.keys):InRound ro I t w:=fun l hl=>by
 obtain ⟨q1,q2,q3⟩:=h l hl;exact ⟨q1,fun hk=>q2 (hs l hk),q3⟩
theorem InRound.none(I:Imm)(s:Hp)(w:World):InRound none I s w:=fun l hl=>by simp at hl
inductive AX where
 | norm
 | exit (id:Nat)
 | ret
def AX.rel:Exit->AX->Prop
 | .normal,.norm=>True
 | .exit i,.exit j=>i=j
 | .ret,.ret=>True
 | _,_=>False
def AW(ro:Option Nat)(P:Program)(n:Nat)(c:Code)(e:Env)(s:Hp)(Q:AX->Env->Hp->Prop):Prop:=
 ∀ ds I w a,EnvRel I (n,ds) a e->Rel I s w->InRound ro I s w ->
  c.wpIn (fw ro) 0 P (fun x a' w'=>∃ ax e' t J ds',AX.rel x ax/\Q ax e' t/\EnvRel J (n,ds') a' e'/\Rel J t w'/\Ext I s w J t w'/\Marks J t w w' ds ds') a w
variable {ro : Option Nat}
theorem AW.mono{P:Program}{n:Nat}{c:Code}{e:Env}{s:Hp}{Q R:AX->Env->Hp->Prop}(h:AW ro P n c e s Q)(hq:∀ x e t,Q x e t->R x e t):AW ro P n c e s R:=
 fun ds I w a he hs hir=>wpIn_mono (h ds I w a he hs hir) fun x a' w' ⟨ax,e',t,J,ds',h1,h2,h3⟩=>⟨ax,e',t,J,ds',h1,hq _ _ _ h2,h3⟩
theorem AW.skip{P:Program}{n:Nat}{e:Env}{s:Hp}{Q:AX->Env->Hp->Prop}(h:Q .norm e s):AW ro P n .skip e s Q:=
 fun ds I w a he hs hir=>wpIn_skip ⟨.norm,e,s,I,ds,trivial,h,he,hs,Ext.refl _ _ _,Marks.refl _ _ _ _ _⟩
theorem AW.ret{P:Program}{n:Nat}{e:Env}{s:Hp}{Q:AX->Env->Hp->Prop}(h:Q .ret e s):AW ro P n .ret e s Q:=
 fun ds I w a he hs hir=>wpIn_ret ⟨.ret,e,s,I,ds,trivial,h,he,hs,Ext.refl _ _ _,Marks.refl _ _ _ _ _⟩
theorem AW.exit{P:Program}{n:Nat}{e:Env}{s:Hp}{Q:AX->Env->Hp->Prop}{id:Nat}(h:Q (.exit id) e s):AW ro P n (.exit id) e s Q:=
 fun ds I w a he hs hir=>wpIn_exit ⟨.exit id,e,s,I,ds,rfl,h,he,hs,Ext.refl _ _ _,Marks.refl _ _ _ _ _⟩
def Y3(next:Env->Hp->Prop)(Q:AX->Env->Hp->Prop):AX->Env->Hp->Prop
 | .norm,e,t=>next e t
 | x,e,t=>Q x e t
theorem AW.seq{P:Program}{n:Nat}{c d:Code}{e:Env}{s:Hp}{Q:AX->Env->Hp->Prop}(h:AW ro P n c e s (Y3 (fun e t=>AW ro P n d e t Q) Q)):AW ro P n (.seq c d) e s Q:=by
 intro ds I w a he hs hir;refine wpIn_seq (wpIn_mono (h ds I w a he hs hir) ?_);rintro x a' w' ⟨ax,e',t,J,ds',h1,h2,h3,h4,h5,h6⟩
 cases x <;> cases ax <;> simp only [AX.rel] at h1
 ·refine wpIn_mono (h2 ds' J w' a' h3 h4 (hir.after h5)) ?_
  rintro x2 a2 w2 ⟨ax2,e2,t2,J2,ds2,q1,q2,q3,q4,q5,q6⟩;exact ⟨ax2,e2,t2,J2,ds2,q1,q2,q3,q4,h5.trans q5,h6.trans q5 q6 h5.size⟩
 ·exact ⟨.exit _,e',t,J,ds',h1,h2,h3,h4,h5,h6⟩
 ·exact ⟨.ret,e',t,J,ds',trivial,h2,h3,h4,h5,h6⟩
theorem AW.cond{P:Program}{n:Nat}{c d:Code}{x:Operand}{e:Env}{s:Hp}{Q:AX->Env->Hp->Prop}{b:Bool}(hx:ev e x=.v (.bool b))(ht:b=true->AW ro P n c e s Q)(hf:b=false->AW ro P n d e s Q):AW ro P n (.cond x c d) e s Q:=by
 intro ds I w a he hs hir;have hv:=he.ev x;rw [hx] at hv;exact wpIn_cond_split hv.of_v (fun h=>ht h ds I w a he hs hir) (fun h=>hf h ds I w a he hs hir)
def Xo(id:Nat)(Q:AX->Env->Hp->Prop):AX->Env->Hp->Prop
 | .exit i,e,t=>if i=id then Q .norm e t else Q (.exit i) e t
 | x,e,t=>Q x e t
theorem AW.block{P:Program}{n:Nat}{c:Code}{id:Nat}{e:Env}{s:Hp}{Q:AX->Env->Hp->Prop}(h:AW ro P n c e s (Xo id Q)):AW ro P n (.block id c) e s Q:=by
 intro ds I w a he hs hir;refine wpIn_block (wpIn_mono (h ds I w a he hs hir) ?_);rintro x a' w' ⟨ax,e',t,J,ds',h1,h2,h3,h4,h5,h6⟩
 cases x <;> cases ax <;> simp only [AX.rel] at h1
 ·exact ⟨.norm,e',t,J,ds',trivial,h2,h3,h4,h5,h6⟩
 ·rename_i i j
  subst h1;simp only [Xo] at h2;simp only [Exit.inBlock]
  split at h2
  ·rename_i hid
   rw [if_pos hid];exact ⟨.norm,e',t,J,ds',trivial,h2,h3,h4,h5,h6⟩
  ·rename_i hid
   rw [if_neg hid];exact ⟨.exit i,e',t,J,ds',rfl,h2,h3,h4,h5,h6⟩
 ·exact ⟨.ret,e',t,J,ds',trivial,h2,h3,h4,h5,h6⟩
theorem Xw(p:Nat->Prop)(h:∃ n,p n):∃ n,p n/\∀ m,p m->n<=m:=by
 classical
 obtain ⟨n,hn⟩:=h
 induction n using Nat.strongRecOn with
 | _ n ih =>
  by_cases hq:∃ m,m<n/\p m
  ·obtain ⟨m,hm,hp⟩:=hq
   exact ih m hm hp
  ·exact ⟨n,hn,fun m hm=>Nat.le_of_not_lt fun hlt=>hq ⟨m,hlt,hm⟩⟩
def LEnd(H:Nat->Env->Hp->Prop)(m:Nat)(e:Env)(t:Hp):Prop:=∃ m' t',m'<m/\(∀ p,p∈t'->p∈t)/\t'.keys.Nodup/\H m' e t'
theorem Xm{s t:Hp}(h:∀ p,p∈s->p∈t)(b:Nat)(hb:b∈s.keys):b∈t.keys:=by
 obtain ⟨p,hp,rfl⟩:=List.mem_map.1 hb;exact List.mem_map.2 ⟨p,h p hp,rfl⟩
theorem AW.loop{P:Program}{n:Nat}{c:Code}{e:Env}{s:Hp}{Q:AX->Env->Hp->Prop}(H:Nat->Env->Hp->Prop)(m0:Nat)(h0:H m0 e s)(hr:∀ m e s,H m e s->AW ro P n c e s (Y3 (LEnd H m) Q)):AW ro P n (.loop c) e s Q:=by
 intro ds I w a he hs hir
 let R:Act->World->Prop:=fun a' w'=>∃ m' e' t J ds',EnvRel J (n,ds') a' e'/\Rel J t w'/\Ext I s w J t w'/\Marks J t w w' ds ds'/\H m' e' t
 let M:Act->World->Nat->Prop:=fun a' w' m'=>∃ e' t J ds',EnvRel J (n,ds') a' e'/\Rel J t w'/\Ext I s w J t w'/\Marks J t w w' ds ds'/\H m' e' t
 have hex:∀ a' w',R a' w'->∃ m',M a' w' m':=fun a' w' ⟨m',e',t,J,q⟩=>⟨m',e',t,J,q⟩
 classical
 let μ:Act->World->Nat:=fun a' w'=>if h:∃ m',M a' w' m' then Classical.choose (Xw _ h) else 0
 refine wpIn_loop R μ ⟨m0,e,s,I,ds,he,hs,Ext.refl _ _ _,Marks.refl _ _ _ _ _,h0⟩ ?_
 intro a1 w1 hR;have hM:=hex a1 w1 hR;have hμ:μ a1 w1=Classical.choose (Xw _ hM):=by simp only [μ];rw [dif_pos hM]
 obtain ⟨e1,s1,J1,ds1,q1,q2,q3,q5,q4⟩:=(Classical.choose_spec (Xw _ hM)).1;refine wpIn_mono (hr _ e1 s1 q4 ds1 J1 w1 a1 q1 q2 (hir.after q3)) ?_
 rintro x a2 w2 ⟨ax,e2,t2,J2,ds2,r1,r2,r3,r4,r5,r6⟩;have hmk:=q5.trans r5 r6 q3.size
 cases x <;> cases ax <;> simp only [AX.rel] at r1
 ·obtain ⟨m',t',hm,hsub,hnd,hH'⟩:=r2
  have hM2:M a2 w2 m':=⟨e2,t',J2,ds2,r3,r4.sub hsub hnd,(q3.trans r5).sub hsub,hmk.sub (Xm hsub),hH'⟩;refine ⟨⟨m',e2,t',J2,ds2,r3,r4.sub hsub hnd,(q3.trans r5).sub hsub,hmk.sub (Xm hsub),hH'⟩,?_⟩;have hμ2:μ a2 w2<=m':=by
   simp only [μ];rw [dif_pos ⟨m',hM2⟩];exact (Classical.choose_spec (Xw _ ⟨m',hM2⟩)).2 m' hM2
  omega
 ·exact ⟨.exit _,e2,t2,J2,ds2,r1,r2,r3,r4,q3.trans r5,hmk⟩
 ·exact ⟨.ret,e2,t2,J2,ds2,trivial,r2,r3,r4,q3.trans r5,hmk⟩
def okOps(n:Nat)(ops:List Oper):Bool:=ops.all (fun o=>!isDefer o.op&&o.dst.all (· < n))
theorem okOps_at{n:Nat}{ops:List Oper}(h:okOps n ops=true)(o:Oper)(ho:o∈ops):isDefer o.op=false/\∀ d,o.dst=some d->d<n:=by
 have:=List.all_eq_true.1 h o ho;simp only [Bool.and_eq_true,Bool.not_eq_true'] at this;exact ⟨this.1,fun d hd'=>by have:=this.2;simpa [hd'] using this⟩
theorem AW.region{P:Program}{n:Nat}{id:Nat}{ops:List Oper}{e:Env}{s:Hp}{Q:AX->Env->Hp->Prop}(hd:okOps n ops=true)(h:OpsS P ops ops e s (fun e' t=>Q .norm e' t)):AW ro P n (.region id ops.toArray false) e s Q:=by
 intro ds I w a he hs hir;exact wpIn_region_lit (h ro (n,ds) I w a he hs (okOps_at hd) _ fun e' t J a' w' h1 h2 h3 h4=>⟨.norm,e',t,J,ds,trivial,h4,h1,h2,h3,Marks.refl _ _ _ _ _⟩)
theorem Ext.sup{I J:Imm}{s s' t:Hp}{w v:World}(h:Ext I s w J t v)(hs:∀ b,b∈s.keys->b∈s'.keys):Ext I s' w J t v:=
 ⟨h.os,h.tape,h.output,h.size,fun b hb hk=>h.frame b hb fun hk'=>hk (hs b hk'),h.imm,fun b hb=>(h.own b hb).imp id (hs b),fun b h1 h2=>(h.newimm b h1 h2).imp id (hs b)⟩
theorem AW.drop{P:Program}{n:Nat}{c:Code}{e:Env}{s t:Hp}{Q:AX->Env->Hp->Prop}(h:AW ro P n c e t Q)(hsub:∀ p,p∈t->p∈s)(hn:s.keys.Nodup->t.keys.Nodup):AW ro P n c e s Q:=
 fun ds I w a he hs hir=>wpIn_mono (h ds I w a he (hs.sub hsub (hn hs.nodup)) (hir.sub (Xm hsub))) fun x a' w' ⟨ax,e',r,J,ds',q1,q2,q3,q4,q5,q6⟩=>⟨ax,e',r,J,ds',q1,q2,q3,q4,q5.sup (Xm hsub),q6⟩
end Go.Eng
namespace Go.Eng
def acall(P:Program)(c:Call)(e:Env)(s:Hp)(K:AV->Hp->Prop):Prop:=
 match c.callee with
 | .builtin b =>
  match b,c.args.toList,c.argTypes.toList with
  | .len,[x],[t]=>alen P t (ev e x) s (fun r=>K r s)
  | .append,[x,y],[t,t']=>t=t'/\aappend P t (ev e x) (ev e y) s K
  | .copy,[x,y],[t,t']=>acopy P t (ev e x) (ev e y) s K
  | .max,[x,y],_=>amax (ev e x) (ev e y) (fun r=>K r s)
  | .max,[x,y,z],_=>amax3 (ev e x) (ev e y) (ev e z) (fun r=>K r s)
  | .min,[x,y],_=>amin (ev e x) (ev e y) (fun r=>K r s)
  | .delete,[x,y],[t,t']=>adelete P t (ev e x) (ev e y) s K
  | _,_,_=>False
 | .value x =>
  match ev e x with
  | .v (.func (.func f) first caps)=>Meets P f (first.toList.map .v++c.args.toList.map (ev e)++caps.toList.map .v) s K
  | _=>False
 | .invoke r m=>ainvoke P (ev e r) m (c.args.toList.map (ev e)) s K
def aassertAny(P:Program)(x:AV)(as:TypeId)(c:Bool)(K:AV->Prop):Prop:=
 match c,Yl P as with
 | true,some false=>aassert P x as K
 | true,some true=>Xp P as=some .nilIface/\V6 P x as true K
 | false,some _=>V6 P x as false K
 | _,none=>False
def aop(P:Program)(o:Op)(e:Env)(s:Hp)(K:AV->Hp->Prop):Prop:=
 match o with
 | .move x=>K (ev e x) s
 | .assign x=>K (ev e x) s
 | .pick c x y=>match ev e c with
  | .v (.bool t)=>apick t (ev e x) (ev e y) (fun r=>K r s)
  | _=>False
 | .alloc t=>aalloc P t s K
 | .box t x=>abox t (ev e x) s K
 | .build t ps=>abuild P e t ps (fun r=>K r s)
 | .buildSlice t len ps=>abuildSlice P e s t len ps K
 | .load t x=>Xg P t (ev e x) s (fun r=>K r s)
 | .store t x y=>astore P t (ev e x) (ev e y) s (fun s'=>K (.v undef) s')
 | .nilCheck x=>match ev e x with
  | .v (.pointer (some a))=>K (.v (.pointer (some a))) s
  | .rp u=>K (.rp u) s
  | _=>False
 | .binOp op t x y _=>Xd P op t x y (ev e x) (ev e y) (fun r=>K r s)
 | .unOp op _ x=>aun op (ev e x) (fun r=>K r s)
 | .convert src dst x=>aconv P src dst (ev e x) s (fun r=>K r s)
 | .makeInterface t x=>Yl P t=some false/\K (mkIfc t (ev e x)) s
 | .makeFunc fn first caps=>amakeFunc e fn first caps (fun r=>K r s)
 | .makeMap t r=>amakeMap P t (r.map (ev e)) s K
 | .makeSlice t l c=>amakeSlice P t (ev e l) (ev e c) s K
 | .slice t x lo hi mx=>aslice P t (ev e x) (lo.map (ev e)) (hi.map (ev e)) (mx.map (ev e)) (fun r=>K r s)
 | .fieldAddr t x f=>Yb P t (ev e x) f (fun r=>K r s)
 | .field t x f=>afield P t (ev e x) f (fun r=>K r s)
 | .indexAddr t x i=>aindexAddr P t (ev e x) (ev e i) (fun r=>K r s)
 | .index t x i=>aindex P t (ev e x) (ev e i) (fun r=>K r s)
 | .lookup t m i c=>alookup P t (ev e m) (ev e i) c s (fun r=>K r s)
 | .mapUpdate t m i x=>Wj P t (ev e m) (ev e i) (ev e x) s (fun s'=>K (.v undef) s')
 | .typeAssert x _ as c=>aassertAny P (ev e x) as c (fun r=>K r s)
 | .range t x=>arange P t (ev e x) s K
 | .next x b=>anext (ev e x) b s K
 | .entry x=>aentry (ev e x) s (fun r=>K r s)
 | .extract x i=>V5 (ev e x) i (fun r=>K r s)
 | .call c=>acall P c e s K
 | _=>False
theorem aop_sound{P:Program}{o:Oper}{e:Env}{s:Hp}{K:AV->Hp->Prop}(h:aop P o.op e s K):OpS P o e s K:=by
 cases ho:o.op <;> simp only [ho,aop] at h
 case move x=>exact .move x ho h
 case assign x=>exact .assign x ho h
 case pick c x y =>
  split at h
  ·rename_i t hc;exact .pick c x y ho t hc h
  ·exact h.elim
 case alloc t=>exact .alloc t ho h
 case box t x=>exact .box t x ho h
 case build t ps=>exact .build t ps ho h
 case buildSlice t len ps=>exact .buildSlice t len ps ho h
 case load t x=>exact .load t x ho h
 case store t x y=>exact .store t x y ho h
 case nilCheck x =>
  split at h
  ·rename_i a hx;exact .nilCheck x ho (.inl ⟨a,hx⟩) (by rw [hx];exact h)
  ·rename_i u hx;exact .nilCheck x ho (.inr ⟨u,hx⟩) (by rw [hx];exact h)
  ·exact h.elim
 case binOp op t x y yt=>exact .binOp op t x y yt ho h
 case unOp op t x=>exact .unOp op t x ho h
 case convert src dst x=>exact .conv src dst x ho h
 case makeInterface t x=>exact .makeInterface t x ho h.1 h.2
 case makeFunc fn first caps=>exact .makeFunc fn first caps ho h
 case makeMap t r=>exact .makeMap t r ho h
 case makeSlice t l c=>exact .makeSlice t l c ho h
 case slice t x lo hi mx=>exact .slice t x lo hi mx ho h
 case fieldAddr t x f=>exact .fieldAddr t x f ho h
 case field t x f=>exact .field t x f ho h
 case indexAddr t x i=>exact .indexAddr t x i ho h
 case index t x i=>exact .index t x i ho h
 case lookup t m i c=>exact .lookup t m i c ho h
 case mapUpdate t m i x=>exact .mapUpdate t m i x ho h
 case typeAssert x xt as c =>
  unfold aassertAny at h
  split at h
  ·exact .typeAssert x xt as ho h
  ·exact .typeAssert2 x xt as true ho (.inl h.1) h.2
  ·exact .typeAssert2 x xt as false ho (.inr rfl) h
  ·exact h.elim
 case range t x=>exact .range t x ho h
 case next x b=>exact .next x b ho h
 case entry x=>exact .entry x ho h
 case extract x i=>exact .extract x i ho h
 case call c =>
  unfold acall at h;obtain ⟨callee,args,ts⟩:=c
  obtain ⟨args⟩:=args;obtain ⟨ts⟩:=ts
  cases callee with
  | invoke r m=>exact .invoke r m _ _ ho h
  | value x =>
   simp only at h
   split at h
   ·rename_i f first caps hx;exact .callValue x _ _ ho f first caps hx h
   ·exact h.elim
  | builtin b =>
   simp only at h
   split at h
   ·exact .len _ _ ho h
   ·obtain ⟨rfl,h⟩:=h;exact .append _ _ _ ho h
   ·exact .copy _ _ _ _ ho h
   ·exact .bmax _ _ _ ho h
   ·exact .bmax3 _ _ _ _ ho h
   ·exact .bmin _ _ _ ho h
   ·exact .delete _ _ _ _ ho h
   ·exact h.elim
def Xi(ops:List Oper)(e:Env)(j:Nat):Option Bool:=
 match (ops[j]?).bind (·.dst) with
 | some d=>match e d with
  | .v (.bool b)=>some b
  | _=>none
 | none=>none
def Yj(P:Program)(ops:List Oper):List Oper->Env->Hp->(Env->Hp->Prop)->Prop
 | [],e,s,K=>K e s
 | o::l,e,s,K =>
  match o.guard with
  | none=>aop P o.op e s fun r t=>Yj P ops l (e.put o.dst r) t K
  | some (j,want)=>match Xi ops e j with
   | some b=>if b=want then aop P o.op e s fun r t=>Yj P ops l (e.put o.dst r) t K else Yj P ops l (e.put o.dst (.v undef)) s K
   | none=>False
theorem aop_mono{P:Program}{o:Oper}{e:Env}{s:Hp}{K L:AV->Hp->Prop}(h:OpS P o e s K)(hk:∀ r t,K r t->L r t):OpS P o e s L:=
 fun n I w a he hs next Q hn=>h n I w a he hs next Q fun v r t J w' h1 h2 h3 h4=>hn v r t J w' h1 h2 h3 (hk r t h4)
theorem aops_sound{P:Program}{ops:List Oper}:∀ (l:List Oper) {e:Env} {s:Hp} {K:Env->Hp->Prop},Yj P ops l e s K->OpsS P ops l e s K
 | [],e,s,K,h=>.nil h
 | o::l,e,s,K,h=>by
  unfold Yj at h
  split at h
  ·rename_i hg
   exact .cons hg (aop_mono (aop_sound h) fun r t q=>aops_sound l q)
  ·rename_i j want hg
   split at h
   ·rename_i b hb
    unfold Xi at hb
    split at hb
    ·rename_i d hd
     split at hb
     ·rename_i b' he
      injection hb with hb;subst hb
      refine .guarded hg hd he (fun hw=>?_) (fun hw=>?_)
      ·rw [if_pos hw] at h
       exact aop_mono (aop_sound h) fun r t q=>aops_sound l q
      ·rw [if_neg hw] at h
       exact aops_sound l h
     ·simp at hb
    ·simp at hb
   ·exact h.elim
theorem AW.reg{P:Program}{ro:Option Nat}{n:Nat}{id:Nat}{ops:List Oper}{e:Env}{s:Hp}{Q:AX->Env->Hp->Prop}(hd:okOps n ops=true)(h:Yj P ops ops e s (fun e' t=>Q .norm e' t)):AW ro P n (.region id ops.toArray false) e s Q:=.region hd (aops_sound ops h)
def entry(as:List AV):Env:=fun t=>as.getD t (.v undef)
def ares(P:Program):List ResultVar->Env->Hp->(List AV->Prop)->Prop
 | [],e,s,K=>K []
 | .tmp t::rs,e,s,K=>ares P rs e s fun us=>K (e t::us)
 | .cell a t::rs,e,s,K=>Xc P t (e a) s fun u=>ares P rs e s fun us=>K (u::us)
def Y8:List AV->AV
 | [u]=>u
 | us=>.tup us
def APost(P:Program)(rs:List ResultVar)(K:AV->Hp->Prop):AX->Env->Hp->Prop
 | .exit _,_,_=>False
 | _,e,s=>ares P rs e s fun us=>K (Y8 us) s
theorem ares_sound{P:Program}:∀ (rs:List ResultVar) {e:Env} {s:Hp} {K:List AV->Prop} {I:Imm} {n:Fr} {a:Act} {w:World},ares P rs e s K->EnvRel I n a e->Rel I s w ->
  ∃ vs us,(rs.mapM (m:=Sem) fun
   | .tmp t=>pure (a.tmps.getD t undef)
   | .cell c t=>do loadVar t (<- asAddr (a.tmps.getD c undef))).run P w=.ok vs w/\vs.length=us.length/\(∀ (j:Nat) (v:Value) (u:AV),vs[j]? = some v->us[j]? = some u->RV I v u)/\K us
 | [],e,s,K,I,n,a,w,h,he,hs=>⟨[],[],by simp,rfl,fun j v u h=>by simp at h,h⟩
 | .tmp t::rs,e,s,K,I,n,a,w,h,he,hs=>by
  obtain ⟨vs,us,h1,h2,h3,h4⟩:=ares_sound rs h he hs;refine ⟨a.tmps.getD t undef::vs,e t::us,?_,by simp [h2],fun j v u hj hu=>?_,h4⟩
  ·rw [List.mapM_cons]
   simp only [Sem.run_bind,Sem.run_pure,Result.andThen_ok,h1]
  ·cases j with
   | zero=>simp at hj hu;subst hj;subst hu;simpa using he.rv t
   | succ j=>exact h3 j v u hj hu
 | .cell c t::rs,e,s,K,I,n,a,w,h,he,hs=>by
  obtain ⟨ad,v,r,q1,q2,q3,q4⟩:=run_aload h hs (he.rv c);obtain ⟨vs,us,h1,h2,h3,h4⟩:=ares_sound rs q4 he hs;refine ⟨v::vs,r::us,?_,by simp [h2],fun j v' u hj hu=>?_,h4⟩
  ·rw [List.mapM_cons]
   have ha:∀ w,(asAddr (a.tmps.getD c undef)).run P w=.ok ad w:=fun w=>by rw [q1];rfl
   simp only [Sem.run_bind,Sem.run_pure,Result.andThen_ok,ha,q2,h1]
  ·cases j with
   | zero=>simp at hj hu;subst hj;subst hu;exact q3
   | succ j=>exact h3 j v' u hj hu
theorem leavesM{P:Program}{fn:Func}{tmps:Array Value}{R:Ending->World->Prop}{J:Imm}{t:Hp}:∀ (l:List Nat) (w':World),l.Nodup->(∀ D∈l,w'.heap[D]? = some (.deferred (some []))/\J D=none/\D∉t.keys)->Rel J t w' ->
  (∀ w'',Rel J t w''->(∀ D,D∉l->w''.heap[D]? = w'.heap[D]?)->w''.heap.size=w'.heap.size->w''.os=w'.os->w''.tape=w'.tape->w''.output=w'.output->∃ v,(results fn tmps).run P w''=.ok v w''/\R (.returned v) w'') ->
  LeavesInM (fw none) 0 P fn tmps R (l.map (fun D=>({ target:=.collected D,args:=#[] }:Deferred))) .returning w'
 | [],w',hn,hl,hs,h=>by
  obtain ⟨v,h1,h2⟩:=h w' hs (fun _ _=>rfl) rfl rfl rfl rfl
  exact ⟨v,h1,h2⟩
 | D::l,w',hn,hl,hs,h=>by
  obtain ⟨q1,q2,q3⟩:=hl D List.mem_cons_self;obtain ⟨hn1,hn2⟩:=List.nodup_cons.1 hn;have hother:∀ b,b≠D->(w'.putObj D (.deferred none)).heap[b]? = w'.heap[b]?:=fun b hb=>World.putObj_heap_other hb
  have hs2:Rel J t (w'.putObj D (.deferred none)):=by
   refine ⟨fun b o hb=>?_,fun b o hb=>?_,hs.free,hs.nodup,hs.gnd⟩
   ·rw [hother b (fun e=>by subst e;rw [q2] at hb;simp at hb)];exact hs.imm b o hb
   ·exact (hs.obj b o hb).move (hother b (fun e=>by subst e;exact q3 (List.mem_map.2 ⟨_,hb,rfl⟩))) (Imm.le_refl _)
  refine ⟨by simp,.inl ⟨D,_,rfl,run_takeDeferred q1,?_⟩⟩
  refine leavesM l _ hn2 (fun E hE=>?_) hs2 fun w'' g1 g2 g3 g4 g5 g6=>?_
  ·obtain ⟨r1,r2,r3⟩:=hl E (List.mem_cons_of_mem _ hE)
   exact ⟨(hother E (fun e=>hn1 (e▸hE))).trans r1,r2,r3⟩
  ·refine h w'' g1 (fun E hE=>?_) (g3.trans World.putObj_size) g4 g5 g6
   have h1:E∉l:=fun h=>hE (List.mem_cons_of_mem _ h)
   have h2:E≠D:=fun h=>hE (h▸List.mem_cons_self)
   exact (g2 E h1).trans (hother E h2)
theorem Meets.body{P:Program}{f:FuncId}{fn:Func}{c:Code}{as:List AV}{s:Hp}{K:AV->Hp->Prop}(hf:P.funcs[f]? = some fn)(hb:fn.body=some c)(hname:(fn.name == "runtime.NumGoroutine")=false)(hlen:as.length<=fn.ntmps)(h:AW none P fn.ntmps c (entry as) s (APost P fn.results.toList K)):Meets P f as s K:=by
 intro I w vs hs ha;have hcall:(callFunc f vs).run P w=.ok (.enter f vs) w:=by
  have hname':¬ fn.name = "runtime.NumGoroutine":=by simpa using hname
  simp [callFunc,hf,hname',hb]
 refine .inl ⟨hcall,(callsIn_wide (n:=0)).1 ?_⟩;refine callsIn_of_wp_marks (F:=fw none) hf hb trivial ?_
 have he:EnvRel I (fn.ntmps,[]) { tmps:=vs++Array.replicate (fn.ntmps-vs.size) undef,defers:=[] } (entry as):=by
  refine ⟨by simp [ha.len];omega,rfl,fun t=>?_⟩
  simp only [entry]
  by_cases ht:t<as.length
  ·have:=ha.rv t _ (List.getElem?_eq_getElem ht)
   have e1:(vs++Array.replicate (fn.ntmps-vs.size) undef).getD t undef=vs.getD t undef:=by
    simp only [Array.getD_eq_getD_getElem?];rw [Array.getElem?_append_left (by rw [ha.len];exact ht)]
   rw [e1];simpa [ht] using this
  ·have e1:(vs++Array.replicate (fn.ntmps-vs.size) undef).getD t undef=undef:=by
    simp only [Array.getD_eq_getD_getElem?];rw [Array.getElem?_append_right (by rw [ha.len];omega)]
    by_cases h2:t-vs.size<fn.ntmps-vs.size <;> simp [h2,Array.getElem?_replicate]
   rw [e1];have:as.getD t (.v undef)=.v undef:=by simp [Nat.le_of_not_lt ht]
   rw [this];exact .v _
 refine wpIn_mono (h [] I w _ he hs (.none _ _ _)) ?_
 rintro x a' w' ⟨ax,e',t,J,ds',h1,h2,h3,h4,h5,h6⟩;have fin:ares P fn.results.toList e' t (fun us=>K (Y8 us) t) ->
   LeavesInM (fw none) 0 P fn a'.tmps (fun e w'=>∃ v,e=.returned v/\∃ r t J,K r t/\Rel J t w'/\RV J v r/\Ext I s w J t w') a'.defers .returning w':=by
  intro hares;obtain ⟨l,g1,g2,g3⟩:=h6;rw [h3.defers,g1,List.append_nil];refine leavesM (J:=J) (t:=t) l w' g2 (fun D hD=>(g3 D hD).2) h4 fun w'' k1 k2 k3 k4 k5 k6=>?_
  have e3:EnvRel J (fn.ntmps,ds') a' e':=h3;obtain ⟨vs2,us,q1',q2,q3,q4⟩:=ares_sound _ hares e3 k1;refine ⟨if h:vs2.length=1 then vs2[0] else .tuple vs2.toArray,?_,_,rfl,Y8 us,t,J,q4,k1,?_,?_⟩
  ·unfold results
   rw [<- Array.toArray_toList (xs:=fn.results)] ;have:(fn.results.toList.toArray.mapM (m:=Sem) fun
     | .tmp t=>pure (a'.tmps.getD t undef)
     | .cell c t=>do loadVar t (<- asAddr (a'.tmps.getD c undef))).run P w''=.ok vs2.toArray w'':=by
    rw [List.mapM_toArray,Sem.run_map,q1'];rfl
   simp only [Sem.run_bind]
   erw [this]
   simp only [Result.andThen_ok,Sem.run_pure,List.size_toArray,List.getElem_toArray]
  ·match us,vs2,q2 with
   | [],vs,q2 =>
    have:vs=[]:=List.eq_nil_of_length_eq_zero q2;subst this;exact .tup _ _ rfl fun j u hj=>by simp at hj
   | [u],[v],q2=>simpa [Y8] using q3 0 v u rfl rfl
   | u::u2::us,vs,q2 =>
    rw [dif_neg (by rw [q2];simp)]
    refine .tup _ _ (by simpa using q2) fun j y hj=>?_
    have hlt:j<vs.length:=by rw [q2];exact (List.getElem?_eq_some_iff.1 hj).1
    have e1:vs.toArray.getD j undef=vs[j]:=by simp [hlt]
    rw [e1];exact q3 j _ y (by simp [hlt]) hj
  ·refine ⟨k4.trans h5.os,k5.trans h5.tape,k6.trans h5.output,by rw [k3];exact h5.size,fun b hb hk=>?_,h5.imm,h5.own,h5.newimm⟩
   rw [k2 b (fun hbl=>by have:=(g3 b hbl).1;omega)]
   exact h5.frame b hb hk
 cases x <;> cases ax <;> simp only [AX.rel] at h1
 ·exact fin h2
 ·exact h2.elim
 ·exact fin h2
theorem Zv(s t:Hp):Hp.keys (s++t)=s.keys++t.keys:=by simp [Hp.keys]
theorem Meets.frame{P:Program}{f:FuncId}{as:List AV}{s t:Hp}{K:AV->Hp->Prop}(h:Meets P f as s (fun r s'=>K r (s'++t))):Meets P f as (s++t) K:=by
 intro I w vs hs ha;have hnd:=hs.nodup;rw [Zv] at hnd;obtain ⟨hn1,hn2,hn3⟩:=List.nodup_append.1 hnd;have hs':Rel I s w:=hs.sub (fun p hp=>List.mem_append_left _ hp) hn1
 refine (h I w vs hs' ha).mono ?_
 rintro v w' ⟨r,s1,J,q1,q2,q3,q4⟩;have hold:∀ b o,(b,o)∈t->b<w.heap.size/\b∉s.keys/\I b=none:=by
  intro b o hb;have hbt:b∈t.keys:=List.mem_map.2 ⟨_,hb,rfl⟩;have hbs:b∈Hp.keys (s++t):=by rw [Zv];exact List.mem_append_right _ hbt
  exact ⟨hs.lt hbs,fun hk=>hn3 b hk b hbt rfl,hs.free b hbs⟩
 have hout:∀ b o,(b,o)∈t->b∉s1.keys:=by
  intro b o hb hk;obtain ⟨h1,h2,h3⟩:=hold b o hb
  rcases q4.own b hk with h | h
  ·omega
  ·exact h2 h
 refine ⟨r,s1++t,J,q1,⟨q2.imm,fun b o hb=>?_,fun b hb=>?_,?_,q2.gnd⟩,q3,⟨q4.os,q4.tape,q4.output,q4.size,fun b hb hk=>?_,q4.imm,fun b hb=>?_,fun b h1 h2=>?_⟩⟩
 ·rcases List.mem_append.1 hb with hb | hb
  ·exact q2.obj b o hb
  ·obtain ⟨h1,h2,h3⟩:=hold b o hb
   exact (hs.obj b o (List.mem_append_right _ hb)).move (q4.frame b h1 h2) q4.imm
 ·rw [Zv] at hb
  rcases List.mem_append.1 hb with hb | hb
  ·exact q2.free b hb
  ·obtain ⟨p,hp,rfl⟩:=List.mem_map.1 hb
   obtain ⟨h1,h2,h3⟩:=hold p.1 p.2 hp
   cases hJ:J p.1 with
   | none=>rfl
   | some o =>
    rcases q4.newimm p.1 h3 (by rw [hJ];simp) with h | h
    ·omega
    ·exact absurd h h2
 ·rw [Zv]
  refine List.nodup_append.2 ⟨q2.nodup,hn2,fun b hb b' hb' e=>?_⟩
  subst e;obtain ⟨p,hp,rfl⟩:=List.mem_map.1 hb';exact hout p.1 p.2 hp hb
 ·rw [Zv] at hk
  exact q4.frame b hb fun h=>hk (List.mem_append_left _ h)
 ·rw [Zv] at hb ⊢
  rcases List.mem_append.1 hb with hb | hb
  ·exact (q4.own b hb).imp id (List.mem_append_left _)
  ·exact .inr (List.mem_append_right _ hb)
 ·rw [Zv]
  exact (q4.newimm b h1 h2).imp id (List.mem_append_left _)
theorem Meets.drop{P:Program}{f:FuncId}{as:List AV}{s t:Hp}{K:AV->Hp->Prop}(h:Meets P f as t K)(hsub:∀ p,p∈t->p∈s)(hn:s.keys.Nodup->t.keys.Nodup):Meets P f as s K:=
 fun I w vs hs ha=>(h I w vs (hs.sub hsub (hn hs.nodup)) ha).mono fun v w' ⟨r,s1,J,q2,q3,q4,q5⟩=>⟨r,s1,J,q2,q3,q4,q5.sup (Xm hsub)⟩
theorem Meets.pure{P:Program}{f:FuncId}{as:List AV}{s:Hp}{K:AV->Hp->Prop}(h:Meets P f as [] (fun r t=>t=[]/\K r s)):Meets P f as s K:=by
 have:=Meets.frame (s:=[]) (t:=s) (K:=K) (h.mono fun r t ⟨h1,h2⟩=>by subst h1;exact h2)
 exact this
inductive Bor (s:Hp):AV->AV->Prop where
 | refl (x:AV):Bor s x x
 | row (b off n c k size:Nat) (e:TypeId) (cs xs:List AV) (hg:(b,AObj.cells e cs size)∈s) (hn:xs.length=n) (hc:n<=c) (hb:n<=big)
   (hl:∀ (i:Nat) (x:AV),xs[i]? = some x->(cellsOf x).length=k) (hx:xs.flatMap cellsOf=(cs.drop off).take (n*k)):Bor s (.v (.slice (some ⟨b,off,none⟩) n c)) (.sl k xs)
 | map (b:Nat) (k:IntKind) (es es':List (Int × AV)) (hg:(b,AObj.imap k es)∈s) (hl:es.length=es'.length) (h1:∀ (j:Nat) (u v:Int × AV),es[j]? = some u->es'[j]? = some v->u.1=v.1) (h:∀ (j:Nat) (u v:Int × AV),es[j]? = some u->es'[j]? = some v->Bor s u.2 v.2):Bor s (.v (.map (some b))) (.mp k es')
 | empty (a:Option Addr) (c k:Nat):Bor s (.v (.slice a 0 c)) (.sl k [])
 | agg (us vs:List AV) (hl:us.length=vs.length) (h:∀ (j:Nat) (u v:AV),us[j]? = some u->vs[j]? = some v->Bor s u v):Bor s (.agg us) (.agg vs)
 | tup (us vs:List AV) (hl:us.length=vs.length) (h:∀ (j:Nat) (u v:AV),us[j]? = some u->vs[j]? = some v->Bor s u v):Bor s (.tup us) (.tup vs)
theorem flat_at{k:Nat}:∀ {xs:List AV} (hl:∀ (i:Nat) (x:AV),xs[i]? = some x->(cellsOf x).length=k) (i j:Nat) (x u:AV),xs[i]? = some x->(cellsOf x)[j]? = some u->(xs.flatMap cellsOf)[i*k+j]? = some u
 | [],hl,i,j,x,u,hx,hu=>by simp at hx
 | y::xs,hl,0,j,x,u,hx,hu=>by
  simp at hx;subst hx;rw [List.flatMap_cons,List.getElem?_append_left (by have:=(List.getElem?_eq_some_iff.1 hu).1;omega)]
  simpa using hu
 | y::xs,hl,i+1,j,x,u,hx,hu=>by
  have hy:=hl 0 y rfl;rw [List.flatMap_cons,List.getElem?_append_right (by rw [hy,Nat.add_mul];omega)]
  have:=flat_at (fun i x h=>hl (i+1) x h) i j x u hx hu
  have e1:(i+1)*k+j-(cellsOf y).length=i*k+j:=by rw [hy,Nat.add_mul];omega
  rw [e1];exact this
def Imm.with(I:Imm)(s:Hp)(w:World):Imm:=fun b=>if b∈s.keys then w.heap[b]? else I b
theorem Imm.le_with{I:Imm}{s:Hp}{w:World}(h:∀ b,b∈s.keys->I b=none):I.le (I.with s w):=fun b o hb=>by
 unfold Imm.with
 rw [if_neg (fun hk=>by rw [h b hk] at hb;simp at hb)];exact hb
theorem Bor.rv{I:Imm}{s:Hp}{w:World}(hs:∀ b o,(b,o)∈s->ObjRel I w b o)(hI:I.le (I.with s w)){x:Value}{u v:AV}(hb:Bor s u v)(hr:RV I x u):RV (I.with s w) x v:=by
 induction hb generalizing x with
 | refl u=>exact hr.mono hI
 | empty a c k =>
  rw [hr.of_v];exact .sl a 0 c k [] (fun _ _=>undef) rfl (Nat.zero_le _) (Nat.zero_le _) (fun i x h=>by simp at h) (fun h=>absurd rfl h) (fun i x j u ad h=>by simp at h) (fun i x j u h=>by simp at h)
 | row b off n c k size e cs xs hg hn hc hbb hl hx =>
  rw [hr.of_v];obtain ⟨cc,hcc⟩:=hs b _ hg;have hkey:b∈s.keys:=List.mem_map.2 ⟨_,hg,rfl⟩;have hcell:∀ (i:Nat) (x:AV) (j:Nat) (u:AV),xs[i]? = some x->(cellsOf x)[j]? = some u->∃ y,cc[off+(i*k+j)]? = some y/\RV I y u:=by
   intro i x j u h1 h2;have h3:=flat_at hl i j x u h1 h2;rw [hx,List.getElem?_take] at h3
   split at h3
   ·rw [List.getElem?_drop] at h3
    exact hcc.cell _ u h3
   ·simp at h3
  refine .sl _ n c k xs (fun i j=>(cc[off+(i*k+j)]?).getD undef) hn.symm hc hbb hl (fun _=>⟨_,rfl,rfl⟩) (fun i x j u ad h1 h2 h3=>?_) (fun i x j u h1 h2=>?_)
  ·simp only [Option.some.injEq] at h3
   subst h3;obtain ⟨y,h4,h5⟩:=hcell i x j u h1 h2;simp only [Imm.cell,Imm.with,if_pos hkey,hcc.block,h4]
   simp
  ·obtain ⟨y,h4,h5⟩:=hcell i x j u h1 h2
   rw [h4];exact h5.mono hI
 | map b k es es' hg hl hkeq h ih =>
  rw [hr.of_v];obtain ⟨c,cl,hc⟩:=hs b _ hg;have hkey:b∈s.keys:=List.mem_map.2 ⟨_,hg,rfl⟩;have ent:∀ (j:Nat) (p:Int × AV),es'[j]? = some p->∃ u,es[j]? = some u/\u.1=p.1/\(c.getD j default).key=.int k u.1/\(c.getD j default).born<cl/\RV I (c.getD j default).val u.2:=by
   intro j p hj;have hlt:j<es.length:=by rw [hl];exact (List.getElem?_eq_some_iff.1 hj).1
   obtain ⟨m,h1,h2,h3,h4⟩:=hc.entry j _ (List.getElem?_eq_getElem hlt);have e1:c.getD j default=m:=by simp only [Array.getD_eq_getD_getElem?,h1,Option.getD_some]
   rw [e1];exact ⟨_,List.getElem?_eq_getElem hlt,hkeq j _ p (List.getElem?_eq_getElem hlt) hj,h2,h4,h3⟩
  refine .mp b k es' c cl ?_ (by rw [hc.full,hl]) (fun j p hj=>?_) (fun j p hj=>?_) hc.apart
  ·unfold Imm.with;rw [if_pos hkey];exact hc.block
  ·obtain ⟨u,h1,h2,h3,h4,_⟩:=ent j p hj
   exact ⟨by rw [h3,h2],h4⟩
  ·obtain ⟨u,h1,_,_,_,h5⟩:=ent j p hj
   exact ih j u p h1 hj h5
 | agg us vs hl h ih =>
  cases hr with
  | agg cs us hl2 hr2 =>
   refine .agg cs vs (by rw [hl2,hl]) fun j v hv=>?_
   have hlt:j<us.length:=by rw [hl];exact (List.getElem?_eq_some_iff.1 hv).1
   exact ih j _ v (List.getElem?_eq_getElem hlt) hv (hr2 j _ (List.getElem?_eq_getElem hlt))
 | tup us vs hl h ih =>
  cases hr with
  | tup cs us hl2 hr2 =>
   refine .tup cs vs (by rw [hl2,hl]) fun j v hv=>?_
   have hlt:j<us.length:=by rw [hl];exact (List.getElem?_eq_some_iff.1 hv).1
   exact ih j _ v (List.getElem?_eq_getElem hlt) hv (hr2 j _ (List.getElem?_eq_getElem hlt))
theorem Imm.with_heap{I:Imm}{s:Hp}{w:World}(h:Rel I s w)(b:Nat)(o:Obj)(hb:(I.with s w) b=some o):w.heap[b]? = some o:=by
 unfold Imm.with at hb
 split at hb
 ·exact hb
 ·exact h.imm b o hb
inductive ObjBor (s:Hp):AObj->AObj->Prop where
 | cells (e:TypeId) (us vs:List AV) (size:Nat) (hl:us.length=vs.length) (h:∀ (j:Nat) (u v:AV),us[j]? = some u->vs[j]? = some v->Bor s u v):ObjBor s (.cells e us size) (.cells e vs size)
 | imap (k:IntKind) (us vs:List (Int × AV)) (hl:us.length=vs.length) (h:∀ (j:Nat) (u v:Int × AV),us[j]? = some u->vs[j]? = some v->u.1=v.1/\Bor s u.2 v.2):ObjBor s (.imap k us) (.imap k vs)
 | iter (k:IntKind) (rest:List (Int × AV)) (cur:Option (Int × AV)):ObjBor s (.iter k rest cur) (.iter k rest cur)
 | lp (r:Loop) (n:Nat) (e e':Nat->AV) (he:∀ t,Bor s (e t) (e' t)):ObjBor s (.lp r n e) (.lp r n e')
theorem ObjBor.refl(s:Hp)(o:AObj):ObjBor s o o:=by
 cases o with
 | cells e cs size=>exact .cells e cs cs size rfl fun j u v h1 h2=>by rw [h1] at h2;injection h2 with h2;subst h2;exact .refl _
 | imap k es=>exact .imap k es es rfl fun j u v h1 h2=>by rw [h1] at h2;injection h2 with h2;subst h2;exact ⟨rfl,.refl _⟩
 | iter k rest cur=>exact .iter k rest cur
 | lp r n e=>exact .lp r n e e fun t=>.refl _
theorem ObjBor.rel{I:Imm}{s:Hp}{w:World}(hs:∀ b o,(b,o)∈s->ObjRel I w b o)(hI:I.le (I.with s w)){b:Nat}{o o':AObj}(h:ObjBor s o o')(hr:ObjRel I w b o):ObjRel (I.with s w) w b o':=by
 cases h with
 | cells e us vs size hl h =>
  obtain ⟨c,hc⟩:=hr;refine ⟨c,hc.block,hc.full,by rw [<- hl];exact hc.le,fun j v hv=>?_⟩
  have hlt:j<us.length:=by rw [hl];exact (List.getElem?_eq_some_iff.1 hv).1
  obtain ⟨x,h1,h2⟩:=hc.cell j _ (List.getElem?_eq_getElem hlt);exact ⟨x,h1,(h j _ v (List.getElem?_eq_getElem hlt) hv).rv hs hI h2⟩
 | imap k us vs hl h =>
  obtain ⟨c,cl,hc⟩:=hr;refine ⟨c,cl,hc.block,by rw [<- hl];exact hc.full,fun j v hv=>?_,hc.apart⟩
  have hlt:j<us.length:=by rw [hl];exact (List.getElem?_eq_some_iff.1 hv).1
  obtain ⟨m,h1,h2,h3,h4⟩:=hc.entry j _ (List.getElem?_eq_getElem hlt);obtain ⟨h5,h6⟩:=h j _ v (List.getElem?_eq_getElem hlt) hv;exact ⟨m,h1,by rw [h2,h5],h6.rv hs hI h3,h4⟩
 | iter k rest cur=>exact IterRel.move hr rfl hI
 | lp r n e e' he=>exact ⟨hr.1,hr.2.1,fun t=>(he t).rv hs hI (hr.2.2 t)⟩
theorem AW.freeze{P:Program}{ro:Option Nat}{n:Nat}{c:Code}{e e':Env}{s s':Hp}{Q:AX->Env->Hp->Prop}(F:Hp)(hF:∀ p,p∈F->p∈s)(he:∀ t,Bor F (e t) (e' t))(hs':∀ p,p∈s'->∃ o,(p.1,o)∈s/\p.1∉F.keys/\ObjBor F o p.2)(hn:s.keys.Nodup->s'.keys.Nodup)(h:AW ro P n c e' s' Q):AW ro P n c e s Q:=by
 intro ds I w a hea hsr hir;have hobj:∀ b o,(b,o)∈F->ObjRel I w b o:=fun b o hb=>hsr.obj b o (hF _ hb)
 have hfree:∀ b,b∈F.keys->I b=none:=fun b hb=>hsr.free b (Xm hF b hb)
 have hle:=Imm.le_with (w:=w) hfree;have hea':EnvRel (I.with F w) (n,ds) a e':=⟨hea.size,hea.defers,fun t=>(he t).rv hobj hle (hea.rv t)⟩
 have hkeys:∀ b,b∈s'.keys->b∈s.keys/\b∉F.keys:=fun b hb=>by
  obtain ⟨p,hp,rfl⟩:=List.mem_map.1 hb;obtain ⟨o,h1,h2,_⟩:=hs' p hp;exact ⟨List.mem_map.2 ⟨_,h1,rfl⟩,h2⟩
 have hrel:Rel (I.with F w) s' w:=by
  refine ⟨fun b o hb=>?_,fun b o hb=>?_,fun b hb=>?_,hn hsr.nodup,hsr.gnd.mono hle⟩
  ·unfold Imm.with at hb
   split at hb
   ·exact hb
   ·exact hsr.imm b o hb
  ·obtain ⟨o0,h1,h2,h3⟩:=hs' _ hb
   exact h3.rel hobj hle (hsr.obj b o0 h1)
  ·obtain ⟨h1,h2⟩:=hkeys b hb
   unfold Imm.with
   rw [if_neg h2];exact hsr.free b h1
 have hir':InRound ro (I.with F w) s' w:=fun l hl=>by
  obtain ⟨q1,q2,q3⟩:=hir l hl;refine ⟨q1,fun hk=>q2 (hkeys l hk).1,?_⟩
  unfold Imm.with
  rw [if_neg fun hk=>q2 (Xm hF l hk)];exact q3
 refine wpIn_mono (h ds _ w a hea' hrel hir') ?_
 rintro x a' w' ⟨ax,e1,t,J,ds',q1,q2,q3,q4,q5,q6⟩;refine ⟨ax,e1,t,J,ds',q1,q2,q3,q4,⟨q5.os,q5.tape,q5.output,q5.size,fun b hb hk=>q5.frame b hb fun hk'=>hk (hkeys b hk').1,Imm.le_trans hle q5.imm,fun b hb=>(q5.own b hb).imp id (fun q=>(hkeys b q).1),fun b h1 h2=>?_⟩,q6⟩
 by_cases hbF:b∈F.keys
 ·exact .inr (Xm hF b hbF)
 ·have:(I.with F w) b=none:=by unfold Imm.with;rw [if_neg hbF];exact h1
  exact (q5.newimm b this h2).imp id (fun q=>(hkeys b q).1)
end Go.Eng
