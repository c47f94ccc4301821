/-
 ChainCuts holds for every input: behind any crash there are the records ahead of the cut, and what was appended behind it; no condition.
-/
import Derived.Test.YtddbfjgodbfaoaaCc4
set_option linter.unusedVariables false
set_option linter.unusedSimpArgs false
namespace Go.Mac
open Go Go.Eng
open Go.IntKind (i64)
attribute [simp] Wa eqOp W0 sealIf fsub fsubL LV.eqb LV.eqbL
abbrev ML:=List (Int × List Int)
abbrev PL:=List (Int × Option (List Int))
def bys(b:List Int):List LV:=b.map (LV.int .u8)
@[simp] theorem bys_length(b:List Int):(bys b).length=b.length:=by simp [bys]
@[simp] theorem bys_nil:bys []=[]:=rfl
@[simp] theorem bys_eq_nil(b:List Int):bys b=[]↔b=[]:=by simp [bys]
theorem bys_cons(x:Int)(b:List Int):bys (x::b)=.int .u8 x::bys b:=rfl
@[simp] theorem sealL_bys:∀ b:List Int,Zi (bys b)=bys b
 | []=>rfl
 | x::b=>by rw [bys_cons];simp only [Zi,Zs];rw [sealL_bys b]
def strB(b:List Int):List UInt8:=b.map fun n=>UInt8.ofNat n.toNat
@[simp] theorem byteL_bys:∀ b:List Int,byteL (bys b)=some (strB b)
 | []=>rfl
 | x::b=>by rw [bys_cons];simp only [byteL];rw [byteL_bys b];rfl
@[simp] theorem eqbL_bys:∀ b:List Int,LV.eqbL (bys b) (bys b)=true
 | []=>rfl
 | x::b=>by rw [bys_cons];simp only [LV.eqbL,LV.eqb];rw [eqbL_bys b];simp
@[simp] theorem okElems_bys(f:Bool)(b:List Int):Yx f 1 (bys b)=true:=by
 unfold Yx bys;rw [List.all_eq_true];intro x hx;obtain ⟨n,_,rfl⟩:=List.mem_map.1 hx
 cases f <;> rfl
@[simp] theorem take_bys(n:Nat)(b:List Int):List.take n (bys b)=bys (b.take n):=by simp [bys,List.map_take]
@[simp] theorem drop_bys(n:Nat)(b:List Int):List.drop n (bys b)=bys (b.drop n):=by simp [bys,List.map_drop]
@[simp] theorem append_bys(a b:List Int):bys a++bys b=bys (a++b):=by simp [bys]
@[simp] theorem replicate_bys(n:Nat)(z:Int):List.replicate n (LV.int .u8 z)=bys (List.replicate n z):=by simp [bys]
@[simp] theorem ofVal_int(k:IntKind)(n:Int):Ww (.int k n)=.int k n:=rfl
def Z6(l:List Int)(off:Nat)(cs:List Int):List Int:=l.take off++cs++l.drop (off+cs.length)
@[simp] theorem spliceI_length(l:List Int)(o:Nat)(cs:List Int):(Z6 l o cs).length=min o l.length+cs.length+(l.length-(o+cs.length)):=by simp [Z6];omega
@[simp high] theorem take_all(n:Nat)(l:List Int)(h:l.length<=n):l.take n=l:=List.take_of_length_le h
@[simp] theorem spliceI_full(l cs:List Int)(h:l.length<=cs.length):Z6 l 0 cs=cs:=by simp [Z6,h]
@[simp] theorem lsplice_bys(l:List Int)(o:Nat)(cs:List Int):Z7 (bys l) o (bys cs)=bys (Z6 l o cs):=by simp [Z7,Z6]
@[simp] theorem bys_get(b:List Int)(i:Nat):(bys b)[i]? = (b[i]?).map (LV.int .u8):=by simp [bys]
@[simp] theorem set_bys(b:List Int)(i:Nat)(x:Int):(bys b).set i (.int .u8 x)=bys (b.set i x):=by simp [bys]
@[simp] theorem lcells_int(k:IntKind)(n:Int):Z4 (.int k n)=[.int k n]:=rfl
@[simp] theorem lcells_bool(b:Bool):Z4 (.bool b)=[.bool b]:=rfl
@[simp] theorem lcells_isl(k:Nat)(xs:List LV):Z4 (.isl k xs)=[.isl k xs]:=rfl
@[simp] theorem lcells_nils:Z4 .nils=[.nils]:=rfl
@[simp] theorem lcells_sl(k b i n:Nat)(c:Option Nat):Z4 (.sl k b i n c)=[.sl k b i n c]:=rfl
@[simp] theorem lcells_ptr(b o:Nat):Z4 (.ptr b o)=[.ptr b o]:=rfl
@[simp] theorem lcells_nilp:Z4 .nilp=[.nilp]:=rfl
@[simp] theorem oneAt_int(f:Bool)(k:IntKind)(n:Int):Xq f (.int k n)=true:=by cases f <;> rfl
@[simp] theorem oneAt_bool(f:Bool)(b:Bool):Xq f (.bool b)=true:=by cases f <;> rfl
@[simp] theorem oneAt_isl(f:Bool)(k:Nat)(xs:List LV):Xq f (.isl k xs)=true:=by cases f <;> rfl
@[simp] theorem oneAt_nils(f:Bool):Xq f .nils=true:=by cases f <;> rfl
@[simp] theorem one_int(k:IntKind)(n:Int):LV.one (.int k n)=true:=rfl
@[simp] theorem one_bool(b:Bool):LV.one (.bool b)=true:=rfl
@[simp] theorem one_isl(k:Nat)(xs:List LV):LV.one (.isl k xs)=true:=rfl
@[simp] theorem one_nils:LV.one .nils=true:=rfl
@[simp] theorem one_sl(k b i n:Nat)(c:Option Nat):LV.one (.sl k b i n c)=true:=rfl
@[simp] theorem one_ptr(b o:Nat):LV.one (.ptr b o)=true:=rfl
def atI(b:List Int)(i:Nat):Int:=b.getD i 0
@[simp high] theorem bys_get'(b:List Int)(i:Nat)(h:i<b.length):(bys b)[i]? = some (.int .u8 (atI b i)):=by
 simp [bys,h,atI]
@[simp] theorem atI_take(b:List Int)(n i:Nat)(h:i<n):atI (b.take n) i=atI b i:=by
 simp [atI,h]
@[simp] theorem atI_drop(b:List Int)(n i:Nat):atI (b.drop n) i=atI b (n+i):=by
 simp [atI]
@[simp] theorem sealV_int(k:IntKind)(n:Int):Zs (.int k n)=.int k n:=rfl
@[simp] theorem wrapS_i64(x:Int)(h0:-9223372036854775808<=x)(h1:x<=9223372036854775807):i64.wrap x=x:=by
 unfold IntKind.wrap;simp [IntKind.bits,IntKind.signed];omega
@[simp] theorem tmod_two(x:Int)(h:0<=x):x.tmod 2=x % 2:=Int.tmod_eq_emod_of_nonneg h
@[simp] theorem fdiv_small(x:Int)(h0:0<=x)(h1:x<256):x.fdiv 256=0:=by
 rw [Int.fdiv_eq_ediv_of_nonneg _ (by omega)];omega
@[simp] theorem wrapS_u8(x:Int)(h0:0<=x)(h1:x<256):IntKind.u8.wrap x=x:=by
 rw [wrap_u8];omega
def blk(b:List Int):List Int:=Z6 (List.replicate 64 0) 0 (b.take (min b.length 64))
@[simp] theorem blk_length(b:List Int):(blk b).length=64:=by simp [blk,Z6];omega
def pnd(x:Int × Option (List Int)):LV:=.agg [.int .i64 x.1,match x.2 with | some b=>.isl 1 (bys b) | none=>.nils]
def Zg(p:PL):List LV:=p.map pnd
@[simp] theorem pnds_length(p:PL):(Zg p).length=p.length:=by simp [Zg]
@[simp] theorem lcells_agg(l:List LV):Z4 (.agg l)=l:=rfl
@[simp] theorem pnds_snoc(p:PL)(at_:Int)(b:List Int):Zg p++[.agg [.int .i64 at_,.isl 1 (bys b)]]=Zg (p++[(at_,some b)]):=by simp [Zg,pnd]
@[simp] theorem pnds_nil:Zg []=[]:=rfl
def Zm(m:ML):List (Int × LV):=m.map fun x=>(x.1,.isl 1 (bys x.2))
def Xl(m:ML):List LV:=m.map fun x=>.isl 1 (bys x.2)
def Zn(m:ML):List Int:=m.map (·.1)
@[simp] theorem zip_mapKV:∀ m:ML,(Zn m).zip (Xl m)=Zm m
 | []=>rfl
 | x::m=>by simp only [Zn,Xl,Zm,List.map_cons,List.zip_cons_cons];exact congrArg _ (zip_mapKV m)
@[simp] theorem mapK_nil:Zn []=[]:=rfl
@[simp] theorem mapV_nil:Xl []=[]:=rfl
@[simp] theorem mapE_fst(m:ML):(Zm m).map (fun x=>x.1)=Zn m:=by simp [Zm,Zn]
@[simp] theorem mapE_snd(m:ML):(Zm m).map (fun x=>x.2)=Xl m:=by simp [Zm,Xl]
abbrev dO(rm:Int)(m:ML)(p:PL):LObj:=.box 77 [.int .i64 rm,.omap .i64 (Zn m) (Xl m),.own 88 2 (Zg p)]
end Go.Mac
