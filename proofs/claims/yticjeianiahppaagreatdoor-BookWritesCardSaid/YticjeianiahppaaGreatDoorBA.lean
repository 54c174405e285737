/- The session book: contracts of the program and of the laws' helpers, joined (Flow, Base, Own, Flo, Cel, Flin, Cep). -/
import Derived.Deep.Quiet
import Derived.StillTail
import Derived.WalkKit
import Derived.Test.YticjeianiahppaaGreatDoorRows
import Derived.BigQuiet
import Derived.WalkSpells
import Derived.WalkLawsBesides
import Derived.Lib.Hide
import Derived.Deep.LoopGhost
import Derived.Deep.DeepFit
import Derived.Laws.EntriesVeiled
import Derived.RangeFuncRecord
import Derived.OneCell
import Derived.Outline
import Derived.OrdersIn
import Derived.TacticsIn
import Derived.RangeFuncCalls
import Derived.Maps.AppendAt
set_option linter.unusedVariables false
set_option linter.unusedSimpArgs false
set_option linter.unnecessarySimpa false
/-
 A region that draws its order,walked once in the order of the text: its first operations yield the same values in every world of a class and stay in the class,the last operations wait for all before them.
 Conditions: the Bool 'okB' over the region's own edges.
-/
namespace Go
open Go.RowKit
theorem zzA {α:Type _} {a:α} {l:List α} {i:Nat}:(a::l).take (i + 1)=a::l.take i:=rfl
theorem zzB {α:Type _} {l:List α}:l.take 0=[]:=rfl
theorem zzC {α:Type _} {a:α} {l:List α} {i:Nat}:(a::l).drop (i + 1)=l.drop i:=rfl
theorem zzD {α:Type _} {l:List α}:l.drop 0=l:=rfl
theorem zzE {α:Type _} {a b:α} {l:List α}:(a::l).set 0 b=b::l:=rfl
theorem zzF {α:Type _} {a b:α} {l:List α} {i:Nat}:(a::l).set (i + 1) b=a::l.set i b:=rfl
theorem zzG {α:Type _} {l:List α} {i:Nat} {a:α}:l.toArray.setIfInBounds i a=(l.set i a).toArray:=by simp
theorem zzH {α:Type _} {l:List α} {i:Nat}:l.toArray[i]?=l[i]?:=by simp
theorem zzI {α:Type _} {a:α} {l:List α} {i:Nat}:(a::l)[i + 1]?=l[i]?:=rfl
theorem zzJ {α:Type _} {a:α} {l:List α}:(a::l)[0]?=some a:=rfl
theorem zzK {α:Type _} {n:Nat} {l:List α} (h:l.length=n + 1):∃ a t,l=a::t:=List.exists_cons_of_length_eq_add_one h
theorem zzL {n:Nat} {w w' : World} (h:Below n w w':=by (repeat (first | exact Below.refl _ _ | refine Below.alloc ?_ (by first | omega | (simp;done) | (simp;omega)) _ | refine Below.drew ?_ | refine Below.setCell ?_ (by first | omega | (simp;done) | (simp;omega)) _ | refine Below.trans ?_ (Below.mono (by assumption) (by first | omega | (simp;done) | (simp;omega)))))):Below n w w':=h
end Go
namespace Go.Flow
open Go.RowKit
section
variable {P:Program} {ops:Array Oper}
def Closed (ops:Array Oper) (L:Nat→Bool):Prop :=
 ∀ j o,ops[j]?=some o→L j=true→∀ e ∈ o.after,Region.binds .any e=true→L e.on=true
def Pred (ops:Array Oper) (i j:Nat):Prop :=
 ∀ L:Nat→Bool,Closed ops L→(∀ o,ops[j]?=some o→∀ e ∈ o.after,Region.binds .any e=true→L e.on=true)→L i=true
def bitsOf (acc:Array Nat) (s:Nat):List Edge→Nat
 | [] => s
 | e :: l => bitsOf acc (if Region.binds .any e then s ||| 2 ^ e.on ||| acc.getD e.on 0 else s) l
theorem zGC (acc:Array Nat) (i:Nat):∀ (l:List Edge) (s:Nat),(bitsOf acc s l).testBit i=true →
  s.testBit i=true∨∃ e ∈ l,Region.binds .any e=true∧(e.on=i∨(acc.getD e.on 0).testBit i=true)
 | [],_,h => .inl h
 | e :: l,s,h => by
  rcases zGC acc i l _ h with h1 | ⟨e',he',hb,h2⟩
  ·by_cases hb:Region.binds .any e=true
   ·rw [if_pos hb] at h1
    simp only [Nat.testBit_or,Bool.or_eq_true,Nat.testBit_two_pow,decide_eq_true_eq] at h1
    rcases h1 with (h1 | h1) | h1
    ·exact .inl h1
    ·exact .inr ⟨e,List.mem_cons_self ..,hb,.inl h1⟩
    ·exact .inr ⟨e,List.mem_cons_self ..,hb,.inr h1⟩
   ·rw [if_neg hb] at h1
    exact .inl h1
  ·exact .inr ⟨e',List.mem_cons_of_mem _ he',hb,h2⟩
def zLn (acc:Array Nat):List Oper→Array Nat
 | [] => acc
 | o :: l => zLn (acc.push (bitsOf acc 0 o.after.toList)) l
theorem zFg:∀ (l:List Oper) (acc:Array Nat),(∀ j,l[j]?=ops[acc.size + j]?) →
  (∀ j i,(acc.getD j 0).testBit i=true→Pred ops i j)→∀ j i,((zLn acc l).getD j 0).testBit i=true→Pred ops i j
 | [],_,_,h => h
 | o :: l,acc,hl,h => by
  refine zFg l _ (fun j => by have:=hl (j + 1);simpa [Nat.add_assoc,Nat.add_comm 1 j] using this) ?_
  intro j i hj
  have ho:ops[acc.size]?=some o:=by simpa using (hl 0).symm
  by_cases hlt:j < acc.size
  ·refine h j i ?_
   have e1:(acc.push (bitsOf acc 0 o.after.toList)).getD j 0=acc.getD j 0:=by
    simp only [Array.getD_eq_getD_getElem?,Array.getElem?_push,if_neg (show ¬ j=acc.size by omega)]
   rwa [e1] at hj
  ·by_cases heq:j=acc.size
   ·subst heq
    have e1:(acc.push (bitsOf acc 0 o.after.toList)).getD acc.size 0=bitsOf acc 0 o.after.toList:=by
     simp only [Array.getD_eq_getD_getElem?,Array.getElem?_push,if_pos,Option.getD_some]
    rw [e1] at hj
    intro L hL hd
    rcases zGC acc i _ _ hj with h0 | ⟨e,he,hb,h1⟩
    ·simp at h0
    ·have he' : e ∈ o.after:=by simpa using he
     have hon:L e.on=true:=hd o ho e he' hb
     rcases h1 with h1 | h1
     ·rw [← h1];exact hon
     ·exact h e.on i h1 L hL (fun o' ho' e' he'' hb' => hL e.on o' ho' hon e' he'' hb')
   ·have e1:(acc.push (bitsOf acc 0 o.after.toList)).getD j 0=0:=by
     rw [Array.getD_eq_getD_getElem?,Array.getElem?_eq_none (by simp;omega)];rfl
    rw [e1] at hj
    simp at hj
def zPH (ops:Array Oper):Array Nat:=zLn #[] ops.toList
theorem zD1 {i j:Nat} (h:((zPH ops).getD j 0).testBit i=true):Pred ops i j :=
 zFg ops.toList #[] (by simp) (fun j i h => by simp at h) j i h
def names (ops:Array Oper) (o:Oper):List Tmp:=o.dst.toList ++ o.looksAt ops
def clash (ops:Array Oper) (x y:Oper):Bool :=
 (match x.dst with | some d => (names ops y).contains d | none => false) || (match y.dst with | some d => (names ops x).contains d | none => false)
theorem zCi {x y:Oper} {d:Tmp} (hx:x.dst=some d) (hy:d ∈ names ops y):clash ops x y=true:=by
 simp [clash,hx,hy]
theorem zDq {x y:Oper} {d:Tmp} (hx:y.dst=some d) (hy:d ∈ names ops x):clash ops x y=true:=by
 simp [clash,hx,hy]
def nthB (f:Nat→Oper→Bool):Nat→List Oper→Bool
 | _,[] => true
 | k,o :: l => f k o && nthB f (k + 1) l
theorem zAx {f:Nat→Oper→Bool}:∀ (l:List Oper) (k:Nat),nthB f k l=true→∀ j o,l[j]?=some o→f (k + j) o=true
 | [],_,_,j,o,h => by simp at h
 | o' :: l,k,h,j,o,hj => by
  simp only [nthB,Bool.and_eq_true] at h
  cases j with
  | zero => simp at hj;subst hj;exact h.1
  | succ j => have:=zAx l (k + 1) h.2 j o (by simpa using hj);rwa [show k + 1 + j=k + (j + 1) by omega] at this
def okB (ops:Array Oper) (n:Nat):Bool :=
 let b:=zPH ops
 Region.noSelect ops && decide (n≤ops.size) &&
 nthB (fun j o => o.after.all fun e => !Region.binds .any e || decide (e.on < j)) 0 ops.toList &&
 nthB (fun j o => decide (n≤j) || nthB (fun i o' => decide (j≤i) || !clash ops o' o || (b.getD j 0).testBit i) 0 ops.toList) 0 ops.toList &&
 nthB (fun j _ => decide (j < n) || (List.range j).all fun i => (b.getD j 0).testBit i) 0 ops.toList &&
 Region.seqB .any ops (ops.size - n) n (Array.replicate n true ++ Array.replicate (ops.size - n) false)
structure Ok (ops:Array Oper) (n:Nat):Prop where
 noSel:Region.noSelect ops=true
 le:n≤ops.size
 back:∀ j o,ops[j]?=some o→∀ e ∈ o.after,Region.binds .any e=true→e.on < j
 apart:∀ i j oi oj,j < n→i < j→ops[i]?=some oi→ops[j]?=some oj→clash ops oi oj=true→Pred ops i j
 tail:∀ i j oj,n≤j→i < j→ops[j]?=some oj→Pred ops i j
 seq:Region.seqB .any ops (ops.size - n) n (Array.replicate n true ++ Array.replicate (ops.size - n) false)=true
theorem zME {n:Nat} (h:okB ops n=true):Ok ops n:=by
 simp only [okB,Bool.and_eq_true,decide_eq_true_eq] at h
 obtain ⟨⟨⟨⟨⟨h1,h2⟩,h3⟩,h4⟩,h5⟩,h6⟩:=h
 refine ⟨h1,h2,?_,?_,?_,h6⟩
 ·intro j o ho e he hb
  have:=zAx _ _ h3 j o (by simpa using ho)
  rw [Array.all_eq_true_iff_forall_mem] at this
  have:=this e he
  simp [hb] at this
  exact this
 ·intro i j oi oj hj hij hi hoj hc
  have:=zAx _ _ h4 j oj (by simpa using hoj)
  simp only [Nat.zero_add,Bool.or_eq_true,decide_eq_true_eq] at this
  have:=this.resolve_left (by omega)
  have:=zAx _ _ this i oi (by simpa using hi)
  simp only [Nat.zero_add,Bool.or_eq_true,decide_eq_true_eq,Bool.not_eq_true',hc] at this
  rcases this with (h | h) | h
  ·omega
  ·cases h
  ·exact zD1 h
 ·intro i j oj hj hij hoj
  have:=zAx _ _ h5 j oj (by simpa using hoj)
  simp only [Nat.zero_add,Bool.or_eq_true,decide_eq_true_eq,List.all_eq_true,List.mem_range] at this
  exact zD1 (this.resolve_left (by omega) i hij)
end
def left (L:Nat→Bool):Nat→Nat
 | 0 => 0
 | n + 1 => left L n + if L n then 0 else 1
theorem zFI (L L' : Nat→Bool) (i:Nat) (hi:L i=false) (hi' : L' i=true) (ho:∀ j,j≠i→L' j=L j):∀ n,left L n=left L' n + if i < n then 1 else 0
 | 0 => by simp [left]
 | n + 1 => by
  have ih:=zFI L L' i hi hi' ho n
  simp only [left,ih]
  by_cases h:n=i
  ·subst h;simp [hi,hi']
  ·rw [ho n h]
   by_cases h2:i < n
   ·rw [if_pos h2,if_pos (show i < n + 1 by omega)];omega
   ·rw [if_neg h2,if_neg (show ¬ i < n + 1 by omega)];omega
theorem zDQ (L:Nat→Bool):∀ n,left L n=0→∀ i,i < n→L i=true
 | 0,_,i,h => by omega
 | n + 1,h,i,hi => by
  simp only [left] at h
  by_cases e:i=n
  ·subst e
   cases hl:L i
   ·rw [hl] at h;simp at h
   ·rfl
  ·exact zDQ L n (by omega) i (by omega)
theorem zBj (L:Nat→Bool):∀ n,left L n≠0→∃ i,i < n∧L i=false∧∀ j,j < i→L j=true
 | 0,h => by simp [left] at h
 | n + 1,h => by
  by_cases h0:left L n=0
  ·refine ⟨n,by omega,?_,fun j hj => zDQ L n h0 j hj⟩
   cases hl:L n
   ·rfl
   ·simp [left,h0,hl] at h
  ·obtain ⟨i,hi,h1,h2⟩:=zBj L n h0
   exact ⟨i,by omega,h1,h2⟩
theorem zJk (n:Nat):left (fun _ => false) n=n:=by
 induction n with
 | zero => rfl
 | succ n ih => simp [left,ih]
section
variable {P:Program} {ops:Array Oper} {C:World→Prop} {le:World→World→Prop} {T:Nat→Value→World→Prop} {n:Nat} {a0:Act} {Q:Exit→Act→World→Prop}
theorem zFU {o:Oper} {a:Act} {w:World} {K K' : Act→World→Prop} (hk:∀ a w,K a w→K' a w) (h:o.wp P a w K (fun _ _ _ => False)):o.wp P a w K' Q:=by
 unfold Oper.wp at *
 generalize (execOp a.eval o).run P w=r at *
 cases r with
 | ok x w' =>
  cases x <;> simp only [Oper.upon] at h ⊢ <;>
   first
    | exact hk _ _ h
    | exact Calls.mono h (fun e w'' he => by cases e <;> first | exact hk _ _ he | exact he.elim | exact (let ⟨_,_,hf⟩:=he;hf.elim))
    | exact Rows.mono h (fun _ _ he => hk _ _ he)
 | halt x w' => cases x <;> simp only [Oper.upon] at h ⊢
def zBM (ops:Array Oper) (n:Nat) (T:Nat→Value→World→Prop) (a0:Act) (L:Nat→Bool) (t:Tmp) (v:Value) (w:World):Prop :=
 (∃ j oj,j < n∧L j=true∧ops[j]?=some oj∧oj.dst=some t∧(∀ k ok,k < n→L k=true→ops[k]?=some ok→ok.dst=some t→k≤j)∧T j v w) ∨
 ((∀ k ok,k < n→L k=true→ops[k]?=some ok→ok.dst≠some t)∧v=a0.tmps.getD t undef)
theorem zBM.congr {L L' : Nat→Bool} {t:Tmp} {v:Value} {w:World} (h:zBM ops n T a0 L t v w)
  (he:∀ k ok,k < n→ops[k]?=some ok→ok.dst=some t→L' k=L k):zBM ops n T a0 L' t v w:=by
 rcases h with ⟨j,oj,hj,hl,ho,hd,hm,hT⟩ | ⟨h1,h2⟩
 ·exact .inl ⟨j,oj,hj,(he j oj hj ho hd).trans hl,ho,hd,fun k ok hk hlk hok hdk => hm k ok hk ((he k ok hk hok hdk).symm.trans hlk) hok hdk,hT⟩
 ·refine .inr ⟨fun k ok hk hlk hok hdk => ?_,h2⟩
  exact h1 k ok hk ((he k ok hk hok hdk).symm.trans hlk) hok hdk
theorem zBM.mono {L:Nat→Bool} {t:Tmp} {v:Value} {w w' : World} (hT:∀ i v w w',T i v w→le w w'→T i v w') (h:zBM ops n T a0 L t v w) (hle:le w w'):zBM ops n T a0 L t v w':=by
 rcases h with ⟨j,oj,hj,hl,ho,hd,hm,hv⟩ | h
 ·exact .inl ⟨j,oj,hj,hl,ho,hd,hm,hT _ _ _ _ hv hle⟩
 ·exact .inr h
structure Inv (ops:Array Oper) (C:World→Prop) (T:Nat→Value→World→Prop) (n:Nat) (a0:Act) (listed:Array Bool) (a:Act) (w:World):Prop where
 size:listed.size=ops.size
 closed:Closed ops (fun i => listed.getD i false)
 tail:∀ t,n≤t→listed.getD t false=false
 cls:C w
 defers:a.defers=a0.defers
 tsize:a.tmps.size=a0.tmps.size
 slots:∀ t,t < a0.tmps.size→zBM ops n T a0 (fun i => listed.getD i false) t (a.tmps.getD t undef) w
def Step (P:Program) (ops:Array Oper) (C:World→Prop) (le:World→World→Prop) (T:Nat→Value→World→Prop) (n:Nat) (a0:Act) (i:Nat) (o:Oper):Prop :=
 ∀ a w,C w→a.defers=a0.defers→a.tmps.size=a0.tmps.size→(∀ t ∈ o.looksAt ops,t < a0.tmps.size→zBM ops n T a0 (fun k => decide (k < i)) t (a.tmps.getD t undef) w) →
  if Region.wanted o (yielded ops a.tmps) then o.wp P a w (fun a' w' => ∃ v,a'=a.put o.dst v∧C w'∧le w w'∧T i v w') (fun _ _ _ => False)
  else T i undef w∧le w w
theorem zCn (a:Act) (d:Tmp) (v:Value) (t:Tmp) (ht:t < a.tmps.size):(a.put (some d) v).tmps.getD t undef=if d=t then v else a.tmps.getD t undef:=by
 simp only [Act.put,Array.getD_eq_getD_getElem?,Array.getElem?_setIfInBounds]
 by_cases h:d=t
 ·subst h;simp [ht]
 ·simp [h]
theorem zB8 (a:Act) (d:Option Tmp) (v:Value):(a.put d v).tmps.size=a.tmps.size:=by cases d <;> simp [Act.put]
theorem zCN (a:Act) (d:Option Tmp) (v:Value):(a.put d v).defers=a.defers:=by cases d <;> rfl
theorem zA9 {listed:Array Bool} {i k:Nat} (hi:i < listed.size):(listed.setIfInBounds i true).getD k false=if k=i then true else listed.getD k false:=by
 simp only [Array.getD_eq_getD_getElem?,Array.getElem?_setIfInBounds]
 by_cases h:i=k
 ·subst h;simp [hi]
 ·rw [if_neg h,if_neg (by omega)]
theorem Inv.next (hT:∀ i v w w',T i v w→le w w'→T i v w') (ok:Ok ops n) {listed:Array Bool} {a:Act} {w w' : World} (inv:Inv ops C T n a0 listed a w) {i:Nat} {o:Oper} {v:Value}
  (ho:ops[i]?=some o) (hin:i < n) (hun:listed.getD i false=false) (hall:∀ e ∈ o.after,Region.binds .any e=true→listed.getD e.on false=true)
  (hC:C w') (hle:le w w') (hv:T i v w'):Inv ops C T n a0 (listed.setIfInBounds i true) (a.put o.dst v) w':=by
 have his:i < listed.size:=by rw [inv.size];exact (Array.getElem?_eq_some_iff.1 ho).1
 refine ⟨by simp [inv.size],?_,?_,hC,(zCN _ _ _).trans inv.defers,(zB8 _ _ _).trans inv.tsize,?_⟩
 ·intro j oj hoj hl e he hb
  simp only [zA9 his] at hl ⊢
  by_cases h2:e.on=i
  ·simp [h2]
  ·rw [if_neg h2]
   by_cases h1:j=i
   ·subst h1
    have:oj=o:=Option.some.inj (hoj.symm.trans ho)
    subst this
    exact hall e he hb
   ·rw [if_neg h1] at hl
    exact inv.closed j oj hoj hl e he hb
 ·intro t ht
  rw [zA9 his,if_neg (by omega)]
  exact inv.tail t ht
 ·intro t ht
  have hs:=(inv.slots t ht).mono hT hle
  cases hd:o.dst with
  | none =>
   show zBM ops n T a0 _ t ((a.put none v).tmps.getD t undef) w'
   refine hs.congr fun k ok' hk hok hdk => ?_
   have hne:k≠i:=fun e => by subst e;rw [ho] at hok;cases hok;rw [hd] at hdk;cases hdk
   simp only [zA9 his,if_neg hne]
  | some d =>
   rw [zCn a d v t (by rw [inv.tsize];exact ht)]
   by_cases hdt:d=t
   ·subst hdt
    rw [if_pos rfl]
    refine .inl ⟨i,o,hin,by simp [zA9 his],ho,hd,fun k ok' hk hlk hok hdk => ?_,hv⟩
    by_cases hki:k=i
    ·omega
    ·dsimp only at hlk
     rw [zA9 his,if_neg hki] at hlk
     rcases Nat.lt_or_ge i k with h | h
     ·have hp:=ok.apart i k o ok' hk h ho hok (zCi hd (by simp [names,hdk]))
      have:=hp _ inv.closed (fun o' ho' e he hb => inv.closed k o' ho' hlk e he hb)
      simp only [hun] at this
      cases this
     ·exact h
   ·rw [if_neg hdt]
    refine hs.congr fun k ok' hk hok hdk => ?_
    have hne:k≠i:=fun e => by subst e;rw [ho] at hok;cases hok;rw [hd] at hdk;exact hdt (Option.some.inj hdk)
    simp only [zA9 his,if_neg hne]
theorem zHK (hT:∀ i v w w',T i v w→le w w'→T i v w') (ok:Ok ops n) (hstep:∀ i o,i < n→ops[i]?=some o→Step P ops C le T n a0 i o)
  (hend:∀ a w,C w→a.defers=a0.defers→a.tmps.size=a0.tmps.size→(∀ t,t < a0.tmps.size→zBM ops n T a0 (fun k => decide (k < n)) t (a.tmps.getD t undef) w)→wpList P ops Q (ops.toList.drop n) a w) :
  ∀ (d:Nat) (listed:Array Bool) (a:Act) (w:World),left (fun i => listed.getD i false) n=d→Inv ops C T n a0 listed a w→wpAny P .any ops Q (d + (ops.size - n)) listed a w
 | 0,listed,a,w,hd,inv => by
  have hall:=zDQ _ n hd
  have hl:listed=Array.replicate n true ++ Array.replicate (ops.size - n) false:=by
   have hle:=ok.le
   apply Array.ext
   ·simp [inv.size];omega
   ·intro i h1 h2
    by_cases hi:i < n
    ·have:=hall i hi
     simp only [Array.getD_eq_getD_getElem?,Array.getElem?_eq_getElem h1,Option.getD_some] at this
     rw [this];simp [hi]
    ·have:=inv.tail i (by omega)
     simp only [Array.getD_eq_getD_getElem?,Array.getElem?_eq_getElem h1,Option.getD_some] at this
     rw [this];simp [Array.getElem_append,hi]
  rw [Nat.zero_add]
  have hlen:(ops.toList.drop n).length=ops.size - n:=by simp
  rw [← hlen]
  refine wpAny_of_seq (md:=.any) (ops.toList.drop n) n listed a w (fun j => by simp [List.getElem?_drop]) (by rw [hlen,hl];exact ok.seq) ?_
  refine hend a w inv.cls inv.defers inv.tsize fun t ht => ?_
  refine (inv.slots t ht).congr fun k ok' hk _ _ => ?_
  simp only [hk,decide_true]
  exact (hall k hk).symm
 | d + 1,listed,a,w,hd,inv => by
  rw [show d + 1 + (ops.size - n)=(d + (ops.size - n)) + 1 by omega]
  refine ⟨fun h0 => ?_,fun i hi => ?_⟩
  ·exfalso
   obtain ⟨i,hi,h1,h2⟩:=zBj _ n (by omega:left (fun i => listed.getD i false) n≠0)
   have hlt:i < ops.size:=by have:=ok.le;omega
   have hmem:i ∈ Region.ready .any ops listed:=by
    refine mem_ready.2 ⟨?_,ops[i],by simp [hlt],fun e he hb => h2 _ (ok.back i ops[i] (by simp [hlt]) e he hb)⟩
    have his:i < listed.size:=by rw [inv.size];exact hlt
    simp only [Array.getD_eq_getD_getElem?,Array.getElem?_eq_getElem his,Option.getD_some] at h1 ⊢
    exact h1
   rw [h0] at hmem
   cases hmem
  ·obtain ⟨hun',o,ho,hall⟩:=mem_ready.1 hi
   have hun:listed.getD i false=false:=getD_both hun'
   have hin:i < n:=by
    rcases Nat.lt_or_ge i n with h | h
    ·exact h
    ·exfalso
     obtain ⟨m,hm,h1,_⟩:=zBj _ n (by omega:left (fun i => listed.getD i false) n≠0)
     have:=ok.tail m i o h (by omega) ho _ inv.closed (fun o' ho' e he hb => hall e (by rw [ho] at ho'; cases ho'; exact he) hb)
     rw [h1] at this
     cases this
   have his:i < listed.size:=by rw [inv.size];exact (Array.getElem?_eq_some_iff.1 ho).1
   have hdn:left (fun k => (listed.setIfInBounds i true).getD k false) n=d:=by
    have:=zFI (fun k => listed.getD k false) (fun k => (listed.setIfInBounds i true).getD k false) i hun (by simp [zA9 his]) (fun j hj => by simp only [zA9 his,if_neg hj]) n
    rw [if_pos hin] at this
    omega
   have hlook:∀ t ∈ o.looksAt ops,t < a0.tmps.size→zBM ops n T a0 (fun k => decide (k < i)) t (a.tmps.getD t undef) w:=by
    intro t ht htl
    refine (inv.slots t htl).congr fun k ok' hk hok hdk => ?_
    rcases Nat.lt_trichotomy k i with h | h | h
    ·simp only [h,decide_true]
     have hp:=ok.apart k i ok' o hin h hok ho (zCi hdk (by simp [names,ht]))
     exact (hp _ inv.closed (fun o' ho' e he hb => hall e (by rw [ho] at ho'; cases ho'; exact he) hb)).symm
    ·subst h
     simp only [Nat.lt_irrefl,decide_false]
     exact hun.symm
    ·simp only [show ¬ k < i by omega,decide_false]
     cases hl:listed.getD k false
     ·rfl
     ·have hp:=ok.apart i k o ok' hk h ho hok (zDq hdk (by simp [names,ht]))
      have:=hp _ inv.closed (fun o' ho' e he hb => inv.closed k o' ho' hl e he hb)
      simp only [hun] at this
      cases this
   have hs:=hstep i o hin ho a w inv.cls inv.defers inv.tsize hlook
   unfold wpOp
   simp only [ho]
   by_cases hw:Region.wanted o (yielded ops a.tmps)=true
   ·rw [if_pos hw] at hs ⊢
    refine .inl (zFU ?_ hs)
    rintro a' w' ⟨v,rfl,hC,hle,hv⟩
    exact zHK hT ok hstep hend d _ _ _ hdn (inv.next hT ok ho hin hun hall hC hle hv)
   ·rw [if_neg hw] at hs ⊢
    exact zHK hT ok hstep hend d _ _ _ hdn (inv.next hT ok ho hin hun hall inv.cls hs.2 hs.1)
theorem zDc {id:Nat} {w:World} (hm:P.follows .mixedOrders=true) (hB:okB ops n=true) (hC:C { w with drawn:=w.drawn + 1 })
  (hT:∀ i v w w',T i v w→le w w'→T i v w') (hstep:∀ i o,i < n→ops[i]?=some o→Step P ops C le T n a0 i o)
  (hend:∀ a w,C w→a.defers=a0.defers→a.tmps.size=a0.tmps.size→(∀ t,t < a0.tmps.size→zBM ops n T a0 (fun k => decide (k < n)) t (a.tmps.getD t undef) w)→wpList P ops Q (ops.toList.drop n) a w) :
  (Code.region id ops true).wp P Q a0 w:=by
 have ok:=zME hB
 refine wp_region_any hm ?_
 have hl:left (fun i => (Array.replicate ops.size false).getD i false) n=n:=by
  have:(fun i => (Array.replicate ops.size false).getD i false)=(fun _ => false):=funext fun i => getD_replicate_false _ _
  rw [this,zJk]
 have:=zHK (Q:=Q) hT ok hstep hend n (Array.replicate ops.size false) a0 { w with drawn:=w.drawn + 1 } hl
  {size:=by simp
   closed:=fun j o _ h => (by simp only [getD_replicate_false] at h;cases h)
   tail:=fun t _ => getD_replicate_false _ _
   cls:=hC
   defers:=rfl
   tsize:=rfl
   slots:=fun t _ => .inr ⟨fun k ok' _ h => (by simp only [getD_replicate_false] at h;cases h),rfl⟩ }
 rwa [show n + (ops.size - n)=ops.size by have:=ok.le;omega] at this
end
def zAN (a:Act):List Oper→List Value→Act
 | o :: l,v :: vs => zAN (a.put o.dst v) l vs
 | _,_ => a
theorem zBT:∀ (l:List Oper) (vs:List Value) (a:Act),(zAN a l vs).tmps.size=a.tmps.size
 | [],_,_ => by simp [zAN]
 | _ :: _,[],_ => by simp [zAN]
 | o :: l,v :: vs,a => by simp only [zAN];rw [zBT l vs,zB8]
theorem zCf:∀ (l:List Oper) (vs:List Value) (a:Act),(zAN a l vs).defers=a.defers
 | [],_,_ => by simp [zAN]
 | _ :: _,[],_ => by simp [zAN]
 | o :: l,v :: vs,a => by simp only [zAN];rw [zCf l vs,zCN]
theorem zEM:∀ (l:List Oper) (vs:List Value) (a:Act) (t:Tmp),vs.length=l.length→t < a.tmps.size →
  (∃ (j:Nat) (oj:Oper),l[j]?=some oj∧oj.dst=some t∧(∀ (k:Nat) (ok:Oper),l[k]?=some ok→ok.dst=some t→k≤j)∧(zAN a l vs).tmps.getD t undef=vs.getD j undef) ∨
  ((∀ (k:Nat) (ok:Oper),l[k]?=some ok→ok.dst≠some t)∧(zAN a l vs).tmps.getD t undef=a.tmps.getD t undef)
 | [],[],a,t,_,_ => .inr ⟨fun k ok h => (by simp at h),rfl⟩
 | [],_ :: _,_,_,h,_ => by simp at h
 | _ :: _,[],_,_,h,_ => by simp at h
 | o :: l,v :: vs,a,t,hl,ht => by
  have hl' : vs.length=l.length:=by simpa using hl
  rcases zEM l vs (a.put o.dst v) t hl' (by rw [zB8];exact ht) with ⟨j,oj,h1,h2,h3,h4⟩ | ⟨h1,h2⟩
  ·refine .inl ⟨j + 1,oj,by simpa using h1,h2,fun k ok hk hd => ?_,by simpa [zAN] using h4⟩
   cases k with
   | zero => omega
   | succ k => have:=h3 k ok (by simpa using hk) hd;omega
  ·cases hd:o.dst with
   | none =>
    rw [hd] at h2
    refine .inr ⟨fun k ok hk hdk => ?_,?_⟩
    ·cases k with
     | zero => simp at hk;subst hk;rw [hd] at hdk;cases hdk
     | succ k => exact h1 k ok (by simpa using hk) hdk
    ·simp only [zAN,hd];exact h2
   | some d =>
    rw [hd,zCn a d v t ht] at h2
    by_cases hdt:d=t
    ·subst hdt
     rw [if_pos rfl] at h2
     refine .inl ⟨0,o,rfl,hd,fun k ok hk hdk => ?_,by simp only [zAN,hd];exact h2⟩
     cases k with
     | zero => omega
     | succ k => exact absurd hdk (h1 k ok (by simpa using hk))
    ·rw [if_neg hdt] at h2
     refine .inr ⟨fun k ok hk hdk => ?_,?_⟩
     ·cases k with
      | zero => simp at hk;subst hk;rw [hd] at hdk;exact hdt (Option.some.inj hdk)
      | succ k => exact h1 k ok (by simpa using hk) hdk
     ·simp only [zAN,hd];exact h2
section
variable {P:Program} {ops:Array Oper} {C:World→Prop} {Q:Exit→Act→World→Prop}
theorem zDi:∀ (l:List Oper) (a:Act) {Qt:Act→Prop},wpQuiet P ops C Qt l a →
  ∃ vs:List Value,vs.length=l.length∧(∀ i o,l[i]?=some o→YieldsIn P ops C o (vs.getD i undef) (zAN a (l.take i) (vs.take i)))∧Qt (zAN a l vs)
 | [],a,_,h => ⟨[],rfl,fun i o h => (by simp at h),h⟩
 | o :: l,a,Qt,h => by
  have hcons:∀ v,YieldsIn P ops C o v a→wpQuiet P ops C Qt l (a.put o.dst v) →
    ∃ vs:List Value,vs.length=(o :: l).length∧(∀ i o',(o :: l)[i]?=some o'→YieldsIn P ops C o' (vs.getD i undef) (zAN a ((o :: l).take i) (vs.take i)))∧Qt (zAN a (o :: l) vs):=by
   intro v hy hr
   obtain ⟨vs,h1,h2,h3⟩:=zDi l _ hr
   refine ⟨v :: vs,by simp [h1],fun i o' hi => ?_,by simpa [zAN] using h3⟩
   cases i with
   | zero => simp at hi;subst hi;simpa [zAN] using hy
   | succ i => have:=h2 i o' (by simpa using hi);simpa [zAN] using this
  unfold wpQuiet at h
  by_cases hw:Region.wanted o (yielded ops a.tmps)=true
  ·rw [if_pos hw] at h
   obtain ⟨v,h1,h2⟩:=h
   exact hcons v (.inl ⟨hw,h1⟩) h2
  ·rw [if_neg hw] at h
   exact hcons undef (.inr ⟨by simpa using hw,rfl⟩) h
theorem zB1 {x:Array Value} {t:Nat} (h:x.size≤t):x.getD t undef=undef:=by
 rw [Array.getD_eq_getD_getElem?,Array.getElem?_eq_none h];rfl
theorem zFs {x y:Array Value} {t:Nat} (hsz:x.size=y.size) (h:x.getD t undef=y.getD t undef):x[t]?=y[t]?:=by
 simp only [Array.getD_eq_getD_getElem?] at h
 by_cases h1:t < x.size
 ·have h2:t < y.size:=by omega
  rw [Array.getElem?_eq_getElem h1,Array.getElem?_eq_getElem h2] at h ⊢
  simp only [Option.getD_some] at h
  rw [h]
 ·have h2:¬ t < y.size:=by omega
  rw [Array.getElem?_eq_none (by omega),Array.getElem?_eq_none (by omega)]
theorem zCe {o:Oper} {a b:Act} (hs:∀ cs d,o.op≠.select cs d) (h:∀ t ∈ o.looksAt ops,a.tmps.getD t undef=b.tmps.getD t undef) (hsz:a.tmps.size=b.tmps.size) :
  execOp a.eval o=execOp b.eval o∧Region.wanted o (yielded ops a.tmps)=Region.wanted o (yielded ops b.tmps):=by
 constructor
 ·refine execOp_congr o hs fun x hx => ?_
  cases x with
  | tmp t => exact h t (by unfold Oper.looksAt;exact List.mem_append_left _ (List.mem_filterMap.2 ⟨.tmp t,by simpa using hx,rfl⟩))
  | _ => rfl
 ·unfold Region.wanted
  cases hg:o.guard with
  | none => rfl
  | some gw =>
   obtain ⟨g,want⟩:=gw
   have hy:yielded ops a.tmps g=yielded ops b.tmps g:=by
    unfold yielded
    cases ht:(ops[g]?).bind (·.dst) with
    | none => rfl
    | some t =>
     have:=zFs hsz (h t (by simp [Oper.looksAt,hg,ht]))
     simp only [Option.bind_some,this]
   simp only [hy]
theorem zDa {id:Nat} {a:Act} {w:World} {l:List Oper} (n:Nat) (hm:P.follows .mixedOrders=true) (hB:okB l.toArray n=true) (hC:C { w with drawn:=w.drawn + 1 })
  (h:wpQuiet P l.toArray C (fun a' => ∀ w',C w'→wpList P l.toArray Q (l.drop n) a' w') (l.take n) a):(Code.region id l.toArray true).wp P Q a w:=by
 obtain ⟨vs,hvl,hy,hq⟩:=zDi _ _ h
 have ok:=zME hB
 have hn:n≤l.length:=by simpa using ok.le
 have hlen:(l.take n).length=n:=by simp;omega
 rw [hlen] at hvl
 have hget:∀ i,i < n→(l.take n)[i]?=l[i]?:=fun i hi => by rw [List.getElem?_take,if_pos hi]
 have htt:∀ i,i≤n→(l.take n).take i=l.take i:=fun i hi => by rw [List.take_take,Nat.min_eq_left hi]
 -- what the slots hold in the text's order
 have slot:∀ (i:Nat),i≤n→∀ (t:Tmp) (v:Value) (w:World),t < a.tmps.size→zBM l.toArray n (fun i v _ => v=vs.getD i undef) a (fun k => decide (k < i)) t v w →
   v=(zAN a ((l.take n).take i) (vs.take i)).tmps.getD t undef:=by
  intro i hi t v w ht hs
  have hli:(vs.take i).length=((l.take n).take i).length:=by simp [hvl];omega
  have hgi:∀ k,k < i→((l.take n).take i)[k]?=l[k]?:=fun k hk => by rw [htt i hi,List.getElem?_take,if_pos hk]
  have hgn:∀ k ok',((l.take n).take i)[k]?=some ok'→k < i:=fun k ok' hk => by
   have:=(List.getElem?_eq_some_iff.1 hk).1
   simp at this;omega
  rcases zEM _ _ a t hli ht with ⟨j,oj,h1,h2,h3,h4⟩ | ⟨h1,h2⟩
  ·have hj:j < i:=hgn j oj h1
   rw [hgi j hj] at h1
   rcases hs with ⟨j',oj',hj',hlt,ho',hd',hm',hv⟩ | ⟨h5,_⟩
   ·simp only [decide_eq_true_eq] at hlt
    have e1:j'≤j:=h3 j' oj' (by rw [hgi j' hlt];simpa using ho') hd'
    have e2:j≤j':=hm' j oj (by omega) (by simp [hj]) (by simpa using h1) h2
    obtain rfl:j'=j:=by omega
    rw [hv,h4]
    simp only [List.getD_eq_getElem?_getD,List.getElem?_take,if_pos hj]
   ·exact absurd h2 (h5 j oj (by omega) (by simp [hj]) (by simpa using h1))
  ·rcases hs with ⟨j',oj',hj',hlt,ho',hd',hm',hv⟩ | ⟨_,h5⟩
   ·simp only [decide_eq_true_eq] at hlt
    exact absurd hd' (h1 j' oj' (by rw [hgi j' hlt];simpa using ho'))
   ·rw [h5,h2]
 refine zDc (C:=C) (le:=fun _ _ => True) (T:=fun i v _ => v=vs.getD i undef) hm hB hC (fun _ _ _ _ h _ => h) ?_ ?_
 ·intro i o hi ho a' w' hC' hd hsz hlook
  have ho' : l[i]?=some o:=by simpa using ho
  have hyi:=hy i o (by rw [hget i hi];exact ho')
  have hsel:∀ cs d,o.op≠.select cs d:=fun cs d => Region.noSelect_spec ok.noSel i o cs d ho
  have hsame:∀ t ∈ o.looksAt l.toArray,a'.tmps.getD t undef=(zAN a ((l.take n).take i) (vs.take i)).tmps.getD t undef:=by
   intro t ht
   by_cases htl:t < a.tmps.size
   ·exact slot i (by omega) t _ w' htl (hlook t ht htl)
   ·have htl' : a.tmps.size≤t:=Nat.not_lt.1 htl
    rw [zB1 (show a'.tmps.size≤t by rw [hsz];exact htl'),zB1 (show (zAN a ((l.take n).take i) (vs.take i)).tmps.size≤t by rw [zBT];exact htl')]
  obtain ⟨e1,e2⟩:=zCe (ops:=l.toArray) hsel hsame (by rw [zBT];exact hsz)
  rcases hyi.of_same e1 e2 with ⟨hw,hv⟩ | ⟨hw,hv⟩
  ·rw [if_pos hw]
   refine Oper.wp_of_quiet (C:=C) (K:=fun a'' => a''=a'.put o.dst (vs.getD i undef)) hC' (fun a'' w'' hC'' e => ⟨_,e,hC'',trivial,rfl⟩) ⟨_,hv,rfl⟩
  ·rw [if_neg (by simp [hw])]
   exact ⟨hv.symm,trivial⟩
 ·intro a' w' hC' hd hsz hs
  have htake:(l.take n).take n=l.take n:=by rw [List.take_take,Nat.min_self]
  have hvt:vs.take n=vs:=List.take_of_length_le (by omega)
  have heq:a'=zAN a (l.take n) vs:=by
   have ht:a'.tmps=(zAN a (l.take n) vs).tmps:=by
    apply Array.ext
    ·rw [zBT];exact hsz
    ·intro i h1 h2
     have hia:i < a.tmps.size:=by rw [← hsz];exact h1
     have:=slot n (Nat.le_refl _) i _ w' hia (hs i hia)
     rw [htake,hvt] at this
     simpa only [Array.getD_eq_getD_getElem?,Array.getElem?_eq_getElem h1,Array.getElem?_eq_getElem h2,Option.getD_some] using this
   have hdd:a'.defers=(zAN a (l.take n) vs).defers:=by rw [zCf];exact hd
   cases a'
   cases hb:zAN a (l.take n) vs
   rw [hb] at ht hdd
   simp only at ht hdd
   rw [ht,hdd]
  rw [heq]
  have:=hq w' hC'
  simpa using this
end
structure Ext (w:World) where
 to:World
 below:Below w.heap.size w to
instance (w:World):Nonempty (Ext w):=⟨⟨w,Below.refl _ _⟩⟩
theorem Ext.size {w:World} (e:Ext w):w.heap.size≤e.to.heap.size:=e.below.size
@[go_sem] theorem ext_cell {w:World} (e:Ext w) (b o:Nat) (h:b < w.heap.size):e.to.cell? ⟨b,o,none⟩=w.cell? ⟨b,o,none⟩:=e.below.cell (p:=⟨b,o,none⟩) h
@[go_sem] theorem ext_frozen {w:World} (e:Ext w) (b o:Nat) (h:b < w.heap.size):e.to.frozen? ⟨b,o,none⟩=w.frozen? ⟨b,o,none⟩:=e.below.frozen (p:=⟨b,o,none⟩) h
@[go_sem] theorem run_makeFunc (P:Program) (fn:Fn) (first cap:Array Value) (w:World):Sem.run P (Instr.makeFunc fn first cap) w=.ok (.func fn first cap) w:=rfl
theorem zCj {P:Program} {f:FuncId} {args:Array Value} {w:World} {e:Ext w} {v:Value}
  (h:Calls P f args e.to fun r w' => r=.returned v∧Below e.to.heap.size e.to w'):Calls P f args e.to fun r w'' => r=.returned v∧∃ e' : Ext w,w''=e'.to :=
 h.mono fun _ w' ⟨hr,hb⟩ => ⟨hr,⟨⟨w',e.below.trans (hb.mono e.size)⟩,rfl⟩⟩
theorem zAH {P:Program} {f:FuncId} {args:Array Value} {w:World} {e:Ext w} {v:Value}
  (h:Calls P f args e.to fun r w' => r=.returned v∧e.to=w'):Calls P f args e.to fun r w'' => r=.returned v∧∃ e' : Ext w,w''=e'.to :=
 h.mono fun _ _ ⟨hr,hb⟩ => ⟨hr,⟨e,hb.symm⟩⟩
theorem zAC {P:Program} {Q:Exit→Act→World→Prop} {id:Nat} {a:Act} {w:World} {l:List Oper} (n:Nat) (hm:P.follows .mixedOrders=true) (hB:okB l.toArray n=true)
  (h:wpQuiet P l.toArray (fun w' => ∃ e:Ext w,w'=e.to) (fun a' => ∀ w',(∃ e:Ext w,w'=e.to)→wpList P l.toArray Q (l.drop n) a' w') (l.take n) a):(Code.region id l.toArray true).wp P Q a w :=
 zDa n hm hB ⟨⟨_,(Below.refl _ w).drew⟩,rfl⟩ h
def _root_.Go.Oper.givesUpon (P:Program) (S:Value→World→Prop):Result Next→Prop
 | .ok (.value v) w' => S v w'
 | .ok .skip w' => S undef w'
 | .ok (.enter f args) w' => Calls P f args w' fun
   | .returned v,w'' => S v w''
   | _,_ => False
 | _ => False
def _root_.Go.Oper.gives (P:Program) (o:Oper) (a:Act) (w:World) (S:Value→World→Prop):Prop:=Oper.givesUpon P S ((execOp a.eval o).run P w)
theorem zFT {P:Program} {o:Oper} {a b:Act} {w:World} {S:Value→World→Prop} {Q:Exit→Act→World→Prop} (he:execOp a.eval o=execOp b.eval o) (h:o.gives P b w S) :
  o.wp P a w (fun a' w' => ∃ v,a'=a.put o.dst v∧S v w') Q:=by
 unfold Oper.gives at h
 unfold Oper.wp
 rw [he]
 generalize (execOp b.eval o).run P w=r at *
 cases r with
 | ok x w' =>
  cases x <;> simp only [Oper.givesUpon] at h <;> simp only [Oper.upon]
  case value v => exact ⟨v,rfl,h⟩
  case skip => exact ⟨undef,rfl,h⟩
  case enter f args =>
   refine h.mono fun e w'' he => ?_
   cases e <;> first | exact ⟨_,rfl,he⟩ | exact he.elim
 | halt x w' => simp only [Oper.givesUpon] at h
def _root_.Go.Oper.quietBUpon (P:Program) (w:World) (v:Value):Result Next→Prop
 | .ok (.value u) w' => w'=w∧u=v
 | .ok .skip w' => w'=w∧v=undef
 | .ok (.enter f args) w' => w'=w∧Calls P f args w (fun e w'' => e=.returned v∧Below w.heap.size w w'')
 | _ => False
def _root_.Go.Oper.quietB (P:Program) (o:Oper) (a:Act) (W:World) (next:Act→Prop):Prop:=∃ v,(∀ e:Ext W,Oper.quietBUpon P e.to v ((execOp a.eval o).run P e.to))∧next (a.put o.dst v)
attribute [go_sem] Oper.givesUpon Oper.gives Oper.quietBUpon Oper.quietB
def wpQB (P:Program) (ops:Array Oper) (W:World) (Q:Act→Prop):List Oper→Act→Prop
 | [],a => Q a
 | o :: rest,a => if Region.wanted o (yielded ops a.tmps) then o.quietB P a W (wpQB P ops W Q rest) else wpQB P ops W Q rest (a.put o.dst undef)
theorem zAQ {P:Program} {ops:Array Oper} {W:World} {Q:Act→Prop} {a:Act} (h:Q a):wpQB P ops W Q [] a:=h
theorem zAL {P:Program} {ops:Array Oper} {W:World} {Q:Act→Prop} {a:Act} {o:Oper} {rest:List Oper}
  (h:∀ K:Act→Prop,(∀ a,wpQB P ops W Q rest a→K a)→if Region.wanted o (yielded ops a.tmps) then o.quietB P a W K else K (a.put o.dst undef)):wpQB P ops W Q (o :: rest) a :=
 h _ (fun _ h => h)
def zDs (P:Program) (ops:Array Oper) (W:World) (o:Oper) (v:Value) (a:Act):Prop :=
 (Region.wanted o (yielded ops a.tmps)=true∧∀ e:Ext W,Oper.quietBUpon P e.to v ((execOp a.eval o).run P e.to))∨(Region.wanted o (yielded ops a.tmps)=false∧v=undef)
theorem zDs.of_same {P:Program} {ops:Array Oper} {W:World} {o:Oper} {v:Value} {a a' : Act} (hy:zDs P ops W o v a) (he:execOp a'.eval o=execOp a.eval o)
  (hw:Region.wanted o (yielded ops a'.tmps)=Region.wanted o (yielded ops a.tmps)):zDs P ops W o v a':=by
 unfold zDs at *
 rw [he,hw]
 exact hy
theorem zEm {P:Program} {o:Oper} {a:Act} {w:World} {v:Value} {Q:Exit→Act→World→Prop} (h:Oper.quietBUpon P w v ((execOp a.eval o).run P w)) :
  o.wp P a w (fun a' w' => a'=a.put o.dst v∧Below w.heap.size w w') Q:=by
 unfold Oper.wp
 generalize (execOp a.eval o).run P w=r at *
 cases r with
 | ok n w' =>
  cases n <;> simp only [Oper.quietBUpon] at h <;> simp only [Oper.upon]
  case value u => obtain ⟨rfl,rfl⟩:=h;exact ⟨rfl,Below.refl _ _⟩
  case skip => obtain ⟨rfl,rfl⟩:=h;exact ⟨rfl,Below.refl _ _⟩
  case enter f args =>
   obtain ⟨rfl,hc⟩:=h
   exact hc.mono fun e w'' ⟨he,hb⟩ => by subst he;exact ⟨rfl,hb⟩
 | halt x w' => simp only [Oper.quietBUpon] at h
theorem zDK {P:Program} {ops:Array Oper} {W:World}:∀ (l:List Oper) (a:Act) {Qt:Act→Prop},wpQB P ops W Qt l a →
  ∃ vs:List Value,vs.length=l.length∧(∀ i o,l[i]?=some o→zDs P ops W o (vs.getD i undef) (zAN a (l.take i) (vs.take i)))∧Qt (zAN a l vs)
 | [],a,_,h => ⟨[],rfl,fun i o h => (by simp at h),h⟩
 | o :: l,a,Qt,h => by
  have hcons:∀ v,zDs P ops W o v a→wpQB P ops W Qt l (a.put o.dst v) →
    ∃ vs:List Value,vs.length=(o :: l).length∧(∀ i o',(o :: l)[i]?=some o'→zDs P ops W o' (vs.getD i undef) (zAN a ((o :: l).take i) (vs.take i)))∧Qt (zAN a (o :: l) vs):=by
   intro v hy hr
   obtain ⟨vs,h1,h2,h3⟩:=zDK l _ hr
   refine ⟨v :: vs,by simp [h1],fun i o' hi => ?_,by simpa [zAN] using h3⟩
   cases i with
   | zero => simp at hi;subst hi;simpa [zAN] using hy
   | succ i => have:=h2 i o' (by simpa using hi);simpa [zAN] using this
  unfold wpQB at h
  by_cases hw:Region.wanted o (yielded ops a.tmps)=true
  ·rw [if_pos hw] at h
   obtain ⟨v,h1,h2⟩:=h
   exact hcons v (.inl ⟨hw,h1⟩) h2
  ·rw [if_neg hw] at h
   exact hcons undef (.inr ⟨by simpa using hw,rfl⟩) h
def zAt (o:Oper):Oper:={ dst:=o.dst,op:=.move (.const undef),type:=o.type,pos:=o.pos,after:=o.after,guard:=none }
def zAF:List Bool→List Oper→List Oper
 | true :: m,o :: l => o :: zAF m l
 | false :: m,o :: l => zAt o :: zAF m l
 | _,_ => []
theorem zBi:∀ (m:List Bool) (l:List Oper) (i:Nat) (b:Bool) (o:Oper),m[i]?=some b→l[i]?=some o→(zAF m l)[i]?=some (if b then o else zAt o)
 | [],_,_,_,_,h,_ => by simp at h
 | _ :: _,[],_,_,_,_,h => by simp at h
 | c :: m,o' :: l,i,b,o,h1,h2 => by
  cases i with
  | zero => simp at h1 h2;subst h1;subst h2;cases c <;> simp [zAF]
  | succ i => have:=zBi m l i b o (by simpa using h1) (by simpa using h2);cases c <;> simpa [zAF] using this
theorem zBG:∀ (m:List Bool) (l:List Oper),m.length=l.length→(zAF m l).length=l.length
 | [],[],_ => rfl
 | [],_ :: _,h => by simp at h
 | _ :: _,[],h => by simp at h
 | true :: m,_ :: l,h => by simp [zAF,zBG m l (by simpa using h)]
 | false :: m,_ :: l,h => by simp [zAF,zBG m l (by simpa using h)]
theorem zFj (m:List Bool) (l:List Oper) (i:Nat) (o:Oper) (hml:m.length=l.length) (h:(zAF m l)[i]?=some o):∃ o' b,l[i]?=some o'∧m[i]?=some b∧o'.dst=o.dst:=by
 have hi:i < l.length:=by have:=(List.getElem?_eq_some_iff.1 h).1;rw [zBG m l hml] at this;exact this
 have h1:=zBi m l i (m[i]'(by omega)) l[i] (by simp) (by simp [hi])
 rw [h1] at h
 refine ⟨l[i],m[i]'(by omega),by simp [hi],by simp,?_⟩
 cases hb:m[i]'(by omega)
 ·rw [hb] at h;simp at h;rw [← h];rfl
 ·rw [hb] at h;simp at h;rw [← h]
def rAt:List Bool→List (Value→World→Prop)→Nat→Value→World→Prop
 | true :: m,Rs,i + 1 => rAt m Rs i
 | false :: _,R :: _,0 => R
 | false :: m,_ :: Rs,i + 1 => rAt m Rs i
 | _,_,_ => fun _ _ => True
def zHj (P:Program) (w:World):List Bool→List Oper→List (Value→World→Prop)→Act→Prop
 | true :: m,_ :: l,Rs,a => zHj P w m l Rs a
 | false :: m,o :: l,R :: Rs,a => (∀ e:Ext w,o.gives P a e.to fun v w'' => Below e.to.heap.size e.to w''∧R v w'')∧zHj P w m l Rs a
 | [],_,_,_ => True
 | _ :: _,[],_,_ => True
 | false :: _,_ :: _,[],_ => False
def zAZ (Qt:Act→Prop) (w' : World):List Bool→List Oper→List (Value→World→Prop)→Act→Prop
 | true :: m,_ :: l,Rs,a => zAZ Qt w' m l Rs a
 | false :: m,o :: l,R :: Rs,a => ∀ v,R v w'→zAZ Qt w' m l Rs (a.put o.dst v)
 | _,_,_,a => Qt a
theorem zE3 {P:Program} {w:World} {a:Act}:∀ (m:List Bool) (l:List Oper) (Rs:List (Value→World→Prop)) (i:Nat) (o:Oper),zHj P w m l Rs a→m[i]?=some false→l[i]?=some o →
  ∀ e:Ext w,o.gives P a e.to fun v w'' => Below e.to.heap.size e.to w''∧rAt m Rs i v w''
 | [],_,_,_,_,_,h,_ => by simp at h
 | _ :: _,[],_,_,_,_,_,h => by simp at h
 | true :: m,_ :: l,Rs,i,o,h,h1,h2 => by
  cases i with
  | zero => simp at h1
  | succ i => exact zE3 m l Rs i o h (by simpa using h1) (by simpa using h2)
 | false :: m,o' :: l,[],i,o,h,_,_ => h.elim
 | false :: m,o' :: l,R :: Rs,i,o,h,h1,h2 => by
  cases i with
  | zero => simp at h2;subst h2;exact h.1
  | succ i => exact zE3 m l Rs i o h.2 (by simpa using h1) (by simpa using h2)
def zA8 (m:List Bool) (l:List Oper) (v:Nat→Value) (k:Nat) (a:Act):Act :=
 match m,l with
 | true :: m,_ :: l => zA8 m l v (k + 1) a
 | false :: m,o :: l => zA8 m l v (k + 1) (a.put o.dst (v k))
 | _,_ => a
theorem zE4 {Qt:Act→Prop} {w' : World} {P:Program} {w:World} {a0:Act}:∀ (m:List Bool) (l:List Oper) (Rs:List (Value→World→Prop)) (v:Nat→Value) (k:Nat) (a:Act),zHj P w m l Rs a0→zAZ Qt w' m l Rs a →
  (∀ i,i < l.length→m[i]?=some false→rAt m Rs i (v (k + i)) w')→Qt (zA8 m l v k a)
 | [],_,_,_,_,_,_,h,_ => by simpa [zA8,zAZ] using h
 | _ :: _,[],_,_,_,_,_,h,_ => by simpa [zA8,zAZ] using h
 | true :: m,_ :: l,Rs,v,k,a,ho,h,hr => by
  simp only [zA8]
  refine zE4 m l Rs v (k + 1) a ho h fun i hi hm => ?_
  have:=hr (i + 1) (by simpa using hi) (by simpa using hm)
  rw [show k + 1 + i=k + (i + 1) by omega]
  exact this
 | false :: m,o :: l,[],_,_,_,ho,_,_ => ho.elim
 | false :: m,o :: l,R :: Rs,v,k,a,ho,h,hr => by
  simp only [zA8]
  refine zE4 m l Rs v (k + 1) _ ho.2 (h (v k) (hr 0 (by simp) rfl)) fun i hi hm => ?_
  have:=hr (i + 1) (by simpa using hi) (by simpa using hm)
  rw [show k + 1 + i=k + (i + 1) by omega]
  exact this
def zIn (ops:Array Oper) (n sz:Nat) (mask:List Bool):Bool :=
 decide (mask.length=n) && nthB (fun i o => mask.getD i true || decide (n≤i) ||
  (o.guard.isNone && (match o.dst with | some d => decide (d < sz) | none => false) && nthB (fun j o' => decide (n≤j) || ((match o.dst with | some d => !(o'.looksAt ops).contains d && (decide (j=i) || o'.dst != some d) | none => true) &&
   (decide (j < i) || (match o'.dst with | some d => !(o.looksAt ops).contains d | none => true)))) 0 ops.toList)) 0 ops.toList
theorem zIm {ops:Array Oper} {n sz:Nat} {mask:List Bool} (h:zIn ops n sz mask=true):mask.length=n∧∀ i o,ops[i]?=some o→i < n→mask[i]?=some false→(o.guard=none∧∃ d,o.dst=some d∧d < sz) ∧
  ∀ j o',ops[j]?=some o'→j < n→(∀ d,o.dst=some d→d ∉ o'.looksAt ops∧(j≠i→o'.dst≠some d))∧(i≤j→∀ d,o'.dst=some d→d ∉ o.looksAt ops):=by
 simp only [zIn,Bool.and_eq_true,decide_eq_true_eq] at h
 refine ⟨h.1,fun i o ho hi hm => ?_⟩
 have h1:=zAx _ _ h.2 i o (by simpa using ho)
 simp only [Nat.zero_add,Bool.or_eq_true,decide_eq_true_eq,Bool.and_eq_true] at h1
 rcases h1 with (h1 | h1) | h1
 ·simp [List.getD_eq_getElem?_getD,hm] at h1
 ·omega
 ·refine ⟨⟨by simpa using h1.1.1,?_⟩,fun j o' ho' hj => ?_⟩
  ·have:=h1.1.2
   cases hd:o.dst with
   | none => rw [hd] at this;simp at this
   | some d => rw [hd] at this;exact ⟨d,rfl,by simpa using this⟩
  have h2:=zAx _ _ h1.2 j o' (by simpa using ho')
  simp only [Nat.zero_add,Bool.or_eq_true,decide_eq_true_eq,Bool.and_eq_true] at h2
  have h3:=h2.resolve_left (by omega)
  refine ⟨fun d hd => ?_,fun hij d hd => ?_⟩
  ·have h4:=h3.1
   rw [hd] at h4
   simp only [Bool.and_eq_true,Bool.not_eq_true',Bool.or_eq_true,decide_eq_true_eq,bne_iff_ne] at h4
   exact ⟨by simpa using h4.1,fun hji => h4.2.resolve_left hji⟩
  ·have h4:=h3.2.resolve_left (by omega)
   rw [hd] at h4
   simpa using h4
theorem zBf (v:Nat→Value):∀ (m:List Bool) (l:List Oper) (k:Nat) (a:Act),(zA8 m l v k a).tmps.size=a.tmps.size
 | [],_,_,_ => by simp [zA8]
 | _ :: _,[],_,_ => by simp [zA8]
 | true :: m,_ :: l,k,a => by simp only [zA8];exact zBf v m l (k + 1) a
 | false :: m,o :: l,k,a => by simp only [zA8];rw [zBf v m l (k + 1),zB8]
theorem zCD (v:Nat→Value):∀ (m:List Bool) (l:List Oper) (k:Nat) (a:Act),(zA8 m l v k a).defers=a.defers
 | [],_,_,_ => by simp [zA8]
 | _ :: _,[],_,_ => by simp [zA8]
 | true :: m,_ :: l,k,a => by simp only [zA8];exact zCD v m l (k + 1) a
 | false :: m,o :: l,k,a => by simp only [zA8];rw [zCD v m l (k + 1),zCN]
theorem zBq (v:Nat→Value) (t:Tmp):∀ (m:List Bool) (l:List Oper) (k:Nat) (a:Act),t < a.tmps.size→(∀ (i:Nat) (o:Oper),m[i]?=some false→l[i]?=some o→o.dst≠some t) →
  (zA8 m l v k a).tmps.getD t undef=a.tmps.getD t undef
 | [],_,_,_,_,_ => by simp [zA8]
 | _ :: _,[],_,_,_,_ => by simp [zA8]
 | true :: m,_ :: l,k,a,ht,h => by
  simp only [zA8]
  exact zBq v t m l (k + 1) a ht fun i o h1 h2 => h (i + 1) o (by simpa using h1) (by simpa using h2)
 | false :: m,o :: l,k,a,ht,h => by
  simp only [zA8]
  rw [zBq v t m l (k + 1) _ (by rw [zB8];exact ht) fun i o h1 h2 => h (i + 1) o (by simpa using h1) (by simpa using h2)]
  cases hd:o.dst with
  | none => rfl
  | some d =>
   have hne:d≠t:=fun e => h 0 o rfl rfl (by rw [hd,e])
   rw [zCn a d _ t ht,if_neg hne]
theorem zEC (v:Nat→Value) (t:Tmp):∀ (m:List Bool) (l:List Oper) (k:Nat) (a:Act) (i:Nat) (o:Oper),t < a.tmps.size→m[i]?=some false→l[i]?=some o→o.dst=some t →
  (∀ (j:Nat) (o' : Oper),j≠i→m[j]?=some false→l[j]?=some o'→o'.dst≠some t)→(zA8 m l v k a).tmps.getD t undef=v (k + i)
 | [],_,_,_,_,_,_,h,_,_,_ => by simp at h
 | _ :: _,[],_,_,_,_,_,_,h,_,_ => by simp at h
 | true :: m,_ :: l,k,a,i,o,ht,h1,h2,h3,h4 => by
  cases i with
  | zero => simp at h1
  | succ i =>
   simp only [zA8]
   rw [zEC v t m l (k + 1) a i o ht (by simpa using h1) (by simpa using h2) h3 fun j o' hj h5 h6 => h4 (j + 1) o' (by omega) (by simpa using h5) (by simpa using h6)]
   rw [show k + 1 + i=k + (i + 1) by omega]
 | false :: m,o' :: l,k,a,i,o,ht,h1,h2,h3,h4 => by
  cases i with
  | zero =>
   simp at h2
   subst h2
   simp only [zA8]
   rw [zBq v t m l (k + 1) _ (by rw [zB8];exact ht) fun j o'' h5 h6 => h4 (j + 1) o'' (by omega) (by simpa using h5) (by simpa using h6)]
   rw [h3,zCn a t _ t ht,if_pos rfl]
   rfl
  | succ i =>
   simp only [zA8]
   rw [zEC v t m l (k + 1) _ i o (by rw [zB8];exact ht) (by simpa using h1) (by simpa using h2) h3 fun j o' hj h5 h6 => h4 (j + 1) o' (by omega) (by simpa using h5) (by simpa using h6)]
   rw [show k + 1 + i=k + (i + 1) by omega]
theorem zFG {le:World→World→Prop}:∀ (m:List Bool) (Rs:List (Value→World→Prop)),(∀ R ∈ Rs,∀ v w w',R v w→le w w'→R v w')→∀ i v w w',rAt m Rs i v w→le w w'→rAt m Rs i v w'
 | [],_,_,_,_,_,_,h,_ => by simpa [rAt] using h
 | true :: _,_,_,0,_,_,_,_,_ => by simp [rAt]
 | true :: m,Rs,hR,i + 1,v,w,w',h,hb => zFG m Rs hR i v w w' h hb
 | false :: _,[],_,_,_,_,_,_,_ => by simp [rAt]
 | false :: _,R :: _,hR,0,v,w,w',h,hb => hR R (List.mem_cons_self ..) v w w' h hb
 | false :: m,_ :: Rs,hR,i + 1,v,w,w',h,hb => zFG m Rs (fun R hm => hR R (List.mem_cons_of_mem _ hm)) i v w w' h hb
theorem zN4 {P:Program} {Q:Exit→Act→World→Prop} {id:Nat} {a:Act} {w:World} {l:List Oper} (n sz:Nat) (mask:List Bool) (Rs:List (Value→World→Prop)) (hm:P.follows .mixedOrders=true)
  (hB:okB l.toArray n=true) (hS:a.tmps.size=sz) (hM:zIn l.toArray n sz mask=true) (hR0:∀ R ∈ Rs,∀ v w w',R v w→Below w.heap.size w w'→R v w')
  (h:wpQB P l.toArray w
   (fun a' => zHj P w mask (l.take n) Rs a'∧∀ e:Ext w,zAZ (fun a'' => wpList P l.toArray Q (l.drop n) a'' e.to) e.to mask (l.take n) Rs a') (zAF mask (l.take n)) a) :
  (Code.region id l.toArray true).wp P Q a w:=by
 have ok:=zME hB
 have hR:=zFG (le:=fun w w' => Below w.heap.size w w') mask Rs hR0
 obtain ⟨hml,hms⟩:=zIm hM
 have hn:n≤l.length:=by simpa using ok.le
 have hlen:(l.take n).length=n:=by simp;omega
 have hml' : mask.length=(l.take n).length:=by omega
 have hget:∀ i,i < n→(l.take n)[i]?=l[i]?:=fun i hi => by rw [List.getElem?_take,if_pos hi]
 obtain ⟨vs,hvl,hy,hobl,hend⟩:=zDK _ _ h
 rw [zBG _ _ hml',hlen] at hvl
 -- what the lexical frame holds behind the first i operations
 have slot:∀ (i:Nat),i≤n→∀ (t:Tmp) (v:Value) (w' : World),t < a.tmps.size→(∀ j o,j < n→mask[j]?=some false→l[j]?=some o→o.dst≠some t) →
   zBM l.toArray n (fun i v w => if mask[i]?=some false then rAt mask Rs i v w else v=vs.getD i undef) a (fun k => decide (k < i)) t v w' →
   v=(zAN a ((zAF mask (l.take n)).take i) (vs.take i)).tmps.getD t undef:=by
  intro i hi t v w' ht hno hs
  have hli:(vs.take i).length=((zAF mask (l.take n)).take i).length:=by simp [hvl,zBG _ _ hml'];omega
  have hgn:∀ k ok',((zAF mask (l.take n)).take i)[k]?=some ok'→k < i∧∃ o',l[k]?=some o'∧o'.dst=ok'.dst:=fun k ok' hk => by
   have h1:=(List.getElem?_eq_some_iff.1 hk).1
   have hki:k < i:=by simp at h1;omega
   rw [List.getElem?_take,if_pos hki] at hk
   obtain ⟨o',b,h2,_,h3⟩:=zFj _ _ _ _ hml' hk
   rw [hget k (by omega)] at h2
   exact ⟨hki,o',h2,h3⟩
  have hto:∀ k o',k < i→l[k]?=some o'→∃ ok',((zAF mask (l.take n)).take i)[k]?=some ok'∧ok'.dst=o'.dst:=fun k o' hk ho' => by
   have hb:k < mask.length:=by omega
   have:=zBi mask (l.take n) k mask[k] o' (by simp [hb]) (by rw [hget k (by omega)];exact ho')
   refine ⟨_,by rw [List.getElem?_take,if_pos hk];exact this,?_⟩
   cases mask[k] <;> rfl
  rcases zEM _ _ a t hli ht with ⟨j,oj,h1,h2,h3,h4⟩ | ⟨h1,h2⟩
  ·obtain ⟨hj,oj',hoj,hdj⟩:=hgn j oj h1
   rcases hs with ⟨j',oj'',hj',hlt,ho',hd',hm',hv⟩ | ⟨h5,_⟩
   ·simp only [decide_eq_true_eq] at hlt
    have ho'l:l[j']?=some oj'':=by simpa using ho'
    obtain ⟨o3,h6,h7⟩:=hto j' oj'' hlt ho'l
    have e1:j'≤j:=h3 j' o3 h6 (by rw [h7];exact hd')
    have e2:j≤j':=hm' j oj' (by omega) (by simp [hj]) (by simpa using hoj) (by rw [hdj];exact h2)
    obtain rfl:j'=j:=by omega
    have hmj:mask[j']?≠some false:=fun hmf => hno j' oj'' hj' hmf ho'l hd'
    rw [if_neg hmj] at hv
    rw [hv,h4]
    simp only [List.getD_eq_getElem?_getD,List.getElem?_take,if_pos hj]
   ·exact absurd (by rw [hdj];exact h2) (h5 j oj' (by omega) (by simp [hj]) (by simpa using hoj))
  ·rcases hs with ⟨j',oj',hj',hlt,ho',hd',hm',hv⟩ | ⟨_,h5⟩
   ·simp only [decide_eq_true_eq] at hlt
    obtain ⟨o3,h6,h7⟩:=hto j' oj' hlt (by simpa using ho')
    exact absurd (by rw [h7];exact hd') (h1 j' o3 h6)
   ·rw [h5,h2]
 have hsizeA:(zAN a (zAF mask (l.take n)) vs).tmps.size=a.tmps.size:=zBT _ _ _
 have htakeN:(zAF mask (l.take n)).take n=zAF mask (l.take n):=List.take_of_length_le (by rw [zBG _ _ hml'];omega)
 have hvtN:vs.take n=vs:=List.take_of_length_le (by omega)
 refine zDc (C:=fun w' => ∃ e:Ext w,w'=e.to) (le:=fun w w' => Below w.heap.size w w')
  (T:=fun i v w => if mask[i]?=some false then rAt mask Rs i v w else v=vs.getD i undef) hm hB ⟨⟨_,(Below.refl _ w).drew⟩,rfl⟩ ?_ ?_ ?_
 ·intro i v w1 w2 ht hle
  split
  ·rename_i hmi;rw [if_pos hmi] at ht;exact hR i v w1 w2 ht hle
  ·rename_i hmi;rw [if_neg hmi] at ht;exact ht
 ·intro i o hi ho a' w' hC' hd hsz hlook
  have ho' : l[i]?=some o:=by simpa using ho
  have hsel:∀ cs d,o.op≠.select cs d:=fun cs d => Region.noSelect_spec ok.noSel i o cs d ho
  by_cases hmi:mask[i]?=some false
  ·-- a value that hangs on the world
   obtain ⟨⟨hg,_⟩,hj⟩:=hms i o ho hi hmi
   rw [if_pos (by simp [Region.wanted,hg])]
   obtain ⟨e,rfl⟩:=hC'
   have hsame:∀ t ∈ o.looksAt l.toArray,a'.tmps.getD t undef=(zAN a (zAF mask (l.take n)) vs).tmps.getD t undef:=by
    intro t ht
    by_cases htl:t < a.tmps.size
    ·have hno:∀ j oj,j < n→mask[j]?=some false→l[j]?=some oj→oj.dst≠some t:=fun j oj hjn hmj hoj hdj => by
      have:=(hms j oj (by simpa using hoj) hjn hmj).2 i o ho hi
      exact (this.1 t hdj).1 ht
     have hs2:zBM l.toArray n (fun i v w => if mask[i]?=some false then rAt mask Rs i v w else v=vs.getD i undef) a (fun k => decide (k < n)) t (a'.tmps.getD t undef) e.to:=by
      refine (hlook t ht htl).congr fun k ok' hk hok hdk => ?_
      by_cases hki:k < i
      ·simp [hki,hk]
      ·exact absurd ht ((hj k ok' hok hk).2 (by omega) t hdk)
     have:=slot n (Nat.le_refl _) t _ e.to htl hno hs2
     rwa [htakeN,hvtN] at this
    ·have htl' : a.tmps.size≤t:=Nat.not_lt.1 htl
     rw [zB1 (show a'.tmps.size≤t by rw [hsz];exact htl'),zB1 (by rw [hsizeA];exact htl')]
   obtain ⟨e1,_⟩:=zCe (ops:=l.toArray) hsel hsame (by rw [hsizeA];exact hsz)
   refine zFU ?_ (zFT e1 (zE3 mask (l.take n) Rs i o hobl hmi (by rw [hget i hi];exact ho') e))
   rintro a'' w'' ⟨v,rfl,hb,hr⟩
   exact ⟨v,rfl,⟨⟨w'',e.below.trans (hb.mono e.size)⟩,rfl⟩,hb,by dsimp only;rw [if_pos hmi];exact hr⟩
  ·-- a value that is the same in every world
   have hmt:mask[i]?=some true:=by
    have hil:i < mask.length:=by omega
    rw [List.getElem?_eq_getElem hil] at hmi ⊢
    cases hb:mask[i]
    ·rw [hb] at hmi;exact absurd rfl hmi
    ·rfl
   have hyi:=hy i o (by have:=zBi mask (l.take n) i true o hmt (by rw [hget i hi];exact ho');simpa using this)
   have hsame:∀ t ∈ o.looksAt l.toArray,a'.tmps.getD t undef=(zAN a ((zAF mask (l.take n)).take i) (vs.take i)).tmps.getD t undef:=by
    intro t ht
    by_cases htl:t < a.tmps.size
    ·refine slot i (by omega) t _ w' htl (fun j oj hjn hmj hoj hdj => ?_) (hlook t ht htl)
     exact ((hms j oj (by simpa using hoj) hjn hmj).2 i o ho hi).1 t hdj |>.1 ht
    ·have htl' : a.tmps.size≤t:=Nat.not_lt.1 htl
     rw [zB1 (show a'.tmps.size≤t by rw [hsz];exact htl'),zB1 (by rw [zBT];exact htl')]
   obtain ⟨e1,e2⟩:=zCe (ops:=l.toArray) hsel hsame (by rw [zBT];exact hsz)
   obtain ⟨e,rfl⟩:=hC'
   -- a quiet step leaves the world or grows it
   rcases hyi.of_same e1 e2 with ⟨hw,hv⟩ | ⟨hw,hv⟩
   ·rw [if_pos hw]
    refine zFU ?_ (zEm (hv e))
    rintro a'' w'' ⟨rfl,hb⟩
    exact ⟨_,rfl,⟨⟨w'',e.below.trans (hb.mono e.size)⟩,rfl⟩,hb,by dsimp only;rw [if_neg hmi]⟩
   ·rw [if_neg (by simp [hw])]
    exact ⟨by dsimp only;rw [if_neg hmi];exact hv.symm,Below.refl _ _⟩
 ·intro a' w' hC' hd hsz hs
  obtain ⟨e,rfl⟩:=hC'
  -- the relations' values, read off the frame at hand
  have hrel:∀ i o,i < n→mask[i]?=some false→l[i]?=some o→∀ t,o.dst=some t→t < a.tmps.size→rAt mask Rs i (a'.tmps.getD t undef) e.to:=by
   intro i o hi hmi ho t hd' ht
   rcases hs t ht with ⟨j,oj,hj,_,hoj,hdj,_,hv⟩ | ⟨h5,_⟩
   ·by_cases hji:j=i
    ·subst hji;rw [if_pos hmi] at hv;exact hv
    ·exact absurd hdj (((hms i o (by simpa using ho) hi hmi).2 j oj hoj hj).1 t hd' |>.2 hji)
   ·exact absurd hd' (h5 i o hi (by simp [hi]) (by simpa using ho))
  have hval:∀ i,i < (l.take n).length→mask[i]?=some false→rAt mask Rs i (a'.tmps.getD (((l[i]?).bind (·.dst)).getD 0) undef) e.to:=by
   intro i hi hmi
   have hil:i < l.length:=by omega
   obtain ⟨⟨_,d,hd',hlt⟩,_⟩:=hms i l[i] (by simp [hil]) (by omega) hmi
   have:=hrel i l[i] (by omega) hmi (by simp [hil]) d hd' (by rw [hS];exact hlt)
   simpa [hil,hd'] using this
  have hpe:=zE4 mask (l.take n) Rs (fun i => a'.tmps.getD (((l[i]?).bind (·.dst)).getD 0) undef) 0 _ hobl (hend e) (fun i hi hmi => by rw [Nat.zero_add];exact hval i hi hmi)
  have heq:a'=zA8 mask (l.take n) (fun i => a'.tmps.getD (((l[i]?).bind (·.dst)).getD 0) undef) 0 (zAN a (zAF mask (l.take n)) vs):=by
   have ht:a'.tmps=(zA8 mask (l.take n) (fun i => a'.tmps.getD (((l[i]?).bind (·.dst)).getD 0) undef) 0 (zAN a (zAF mask (l.take n)) vs)).tmps:=by
    apply Array.ext
    ·rw [zBf,hsizeA];exact hsz
    ·intro t h1 h2
     have hta:t < a.tmps.size:=by rw [← hsz];exact h1
     have key:a'.tmps.getD t undef=(zA8 mask (l.take n) (fun i => a'.tmps.getD (((l[i]?).bind (·.dst)).getD 0) undef) 0 (zAN a (zAF mask (l.take n)) vs)).tmps.getD t undef:=by
      by_cases hex:∃ i o,i < n∧mask[i]?=some false∧l[i]?=some o∧o.dst=some t
      ·obtain ⟨i,o,hi,hmi,ho,hd'⟩:=hex
       rw [zEC _ t mask (l.take n) 0 _ i o (by rw [hsizeA];exact hta) hmi (by rw [hget i hi];exact ho) hd' (fun j o' hji hmj ho' hdj => ?_)]
       ·simp [ho,hd']
       ·have hjn:j < n:=by have:=(List.getElem?_eq_some_iff.1 ho').1;omega
        rw [hget j hjn] at ho'
        exact ((hms i o (by simpa using ho) hi hmi).2 j o' (by simpa using ho') hjn).1 t hd' |>.2 hji hdj
      ·rw [zBq _ t mask (l.take n) 0 _ (by rw [hsizeA];exact hta) (fun i o hmi ho hd' => ?_)]
       ·have:=slot n (Nat.le_refl _) t _ e.to hta (fun j o hj hmj ho hd' => hex ⟨j,o,hj,hmj,ho,hd'⟩) (hs t hta)
        rwa [htakeN,hvtN] at this
       ·have hin:i < n:=by have:=(List.getElem?_eq_some_iff.1 ho).1;omega
        rw [hget i hin] at ho
        exact hex ⟨i,o,hin,hmi,ho,hd'⟩
     have k2:=zFs (by rw [zBf,hsizeA];exact hsz) key
     rw [Array.getElem?_eq_getElem h1,Array.getElem?_eq_getElem h2] at k2
     exact Option.some.inj k2
   have hdd:a'.defers=(zA8 mask (l.take n) (fun i => a'.tmps.getD (((l[i]?).bind (·.dst)).getD 0) undef) 0 (zAN a (zAF mask (l.take n)) vs)).defers:=by rw [zCD,zCf];exact hd
   generalize zA8 mask (l.take n) (fun i => a'.tmps.getD (((l[i]?).bind (·.dst)).getD 0) undef) 0 (zAN a (zAF mask (l.take n)) vs)=b at ht hdd
   cases a'
   cases b
   simp only at ht hdd
   rw [ht,hdd]
  rw [heq]
  simpa using hpe
end Go.Flow
namespace Go.Proofs.YticjeianiahppaaGreatDoor
open Go.RowKit Go.Flow Go.Proofs
theorem zAk {W w1:World} (hb:Below W.heap.size W w1):(∀ b o,b < W.heap.size→w1.cell? ⟨b,o,none⟩=W.cell? ⟨b,o,none⟩)∧(∀ b o,b < W.heap.size→w1.frozen? ⟨b,o,none⟩=W.frozen? ⟨b,o,none⟩)∧W.heap.size≤w1.heap.size :=
 ⟨fun b o h => hb.cell (p:=⟨b,o,none⟩) h,fun b o h => hb.frozen (p:=⟨b,o,none⟩) h,hb.size⟩
def IntsAt (w:World) (a:Option Addr) (xs:List Int):Prop :=
 ∀ k,k < xs.length→∃ b off,a=some ⟨b,off,none⟩∧b < w.heap.size∧w.cell? ⟨b,off + k,none⟩=some (.int .i64 (xs.getD k 0))
theorem IntsAt.below {w w' : World} {a:Option Addr} {xs:List Int} (h:IntsAt w a xs) (hb:Below w.heap.size w w'):IntsAt w' a xs:=fun k hk =>
 let ⟨b,off,ha,hlt,hc⟩:=h k hk
 ⟨b,off,ha,Nat.lt_of_lt_of_le hlt hb.size,(hb.cell (p:=⟨b,off + k,none⟩) hlt).trans hc⟩
theorem IntsAt.nil (w:World) (a:Option Addr):IntsAt w a []:=fun k hk => by simp at hk
def zAc (P:Program) (w:World) (g:FuncId) (first cap:Array Value) (x:Value) (b:Bool):Prop :=
 ∀ w1:World,Below w.heap.size w w1→Calls P g (first.push x ++ cap) w1 fun r w' => r=.returned (.bool b)∧Below w1.heap.size w1 w'
theorem zAc.below {P:Program} {w w' : World} {g:FuncId} {first cap:Array Value} {x:Value} {b:Bool} (h:zAc P w g first cap x b) (hb:Below w.heap.size w w'):zAc P w' g first cap x b :=
 fun w1 h1 => h w1 (hb.trans (h1.mono hb.size))
def zAX (w:World) (a:Option Addr) (xs:List (Int × Int)):Prop :=
 ∀ k (h:k < xs.length),∃ b off,a=some ⟨b,off,none⟩∧b < w.heap.size∧w.cell? ⟨b,off + k * 2,none⟩=some (.int .i64 xs[k].1)∧w.cell? ⟨b,off + k * 2 + 1,none⟩=some (.int .i64 xs[k].2)
def zBX (w:World) (a:Option Addr) (xs:List (Int × Int × Int)):Prop :=
 ∀ k (h:k < xs.length),∃ b off,a=some ⟨b,off,none⟩∧b < w.heap.size∧w.cell? ⟨b,off + k * 3,none⟩=some (.int .i64 xs[k].1)∧w.cell? ⟨b,off + k * 3 + 1,none⟩=some (.int .i64 xs[k].2.1)∧w.cell? ⟨b,off + k * 3 + 2,none⟩=some (.int .i64 xs[k].2.2)
theorem zAX.below {w w' : World} {a:Option Addr} {xs:List (Int × Int)} (h:zAX w a xs) (hb:Below w.heap.size w w'):zAX w' a xs:=fun k hk =>
 let ⟨b,off,ha,hlt,h0,h1⟩:=h k hk
 ⟨b,off,ha,Nat.lt_of_lt_of_le hlt hb.size,(hb.cell (p:=⟨b,_,none⟩) hlt).trans h0,(hb.cell (p:=⟨b,_,none⟩) hlt).trans h1⟩
theorem zBX.below {w w' : World} {a:Option Addr} {xs:List (Int × Int × Int)} (h:zBX w a xs) (hb:Below w.heap.size w w'):zBX w' a xs:=fun k hk =>
 let ⟨b,off,ha,hlt,h0,h1,h2⟩:=h k hk
 ⟨b,off,ha,Nat.lt_of_lt_of_le hlt hb.size,(hb.cell (p:=⟨b,_,none⟩) hlt).trans h0,(hb.cell (p:=⟨b,_,none⟩) hlt).trans h1,(hb.cell (p:=⟨b,_,none⟩) hlt).trans h2⟩
theorem zAX.nil (w:World) (a:Option Addr):zAX w a []:=fun k hk => absurd hk (Nat.not_lt_zero k)
theorem zBX.nil (w:World) (a:Option Addr):zBX w a []:=fun k hk => absurd hk (Nat.not_lt_zero k)
theorem enters {P : Program} {f : FuncId} {fn : Func} (hf : P.funcs[f]? = some fn) (hn : (fn.name == "runtime.NumGoroutine") = false) (hb : fn.body.isNone = false) (args : Array Value) (w : World) :
  Sem.run P (callFunc f args) w=.ok (.enter f args) w:=by
 have h1 : ¬ fn.name = "runtime.NumGoroutine" := by simpa using hn
 have h2:¬ fn.body=none:=by intro h;simp [h] at hb
 simp [callFunc,hf,h1,h2]
def idxBy {α:Type} (p:α→Bool):List α→Nat→Int
 | [],_ => -1
 | x :: l,k => if p x then k else idxBy p l (k + 1)
theorem idxBy_hit {α:Type} (p:α→Bool) (xs:List α) (k:Nat) (hk:k < xs.length) (h:p xs[k]=true):idxBy p (xs.drop k) k=k:=by
 rw [List.drop_eq_getElem_cons hk];simp [idxBy,h]
theorem idxBy_miss {α:Type} (p:α→Bool) (xs:List α) (k:Nat) (hk:k < xs.length) (h:p xs[k]=false):idxBy p (xs.drop k) k=idxBy p (xs.drop (k + 1)) (k + 1):=by
 rw [List.drop_eq_getElem_cons hk];simp [idxBy,h]
theorem zBQ {α:Type} (p:α→Bool) (xs:List α) (n k:Nat) (hk:xs.length≤n):idxBy p (xs.drop n) k = -1:=by
 rw [List.drop_eq_nil_of_le hk];rfl
theorem zBJ {α:Type} (p:α→Bool):∀ (xs:List α) (k:Nat),decide (0≤idxBy p xs k)=xs.any p
 | [],_ => by simp [idxBy]
 | x :: l,k => by
  simp only [idxBy,List.any_cons]
  by_cases hp:p x=true
  ·simp [hp]
  ·simp [hp,zBJ p l (k + 1)]
theorem zBP {α:Type} (p:α→Bool):∀ (xs:List α) (k:Nat),-1≤idxBy p xs k∧idxBy p xs k≤k + xs.length
 | [],k => by simp only [idxBy,List.length_nil];omega
 | x :: l,k => by
  simp only [idxBy,List.length_cons]
  have:=zBP p l (k + 1)
  split <;> omega
open Go.RowKit Go.Flow
def OwnL (E:TypeId) (size base:Nat) (w:World) (a:Option Addr) (c n:Nat) (xs:List Value):Prop:=w.ownsRow base E size (.slice a n c) n xs
structure Elem (P:Program) (t E:TypeId) (z:Value) (size bytes:Nat):Prop where
 slice:P.underlying t=some (.slice E)
 info:∃ i,P.info? E=some i∧i.zero=some z∧i.size=size∧i.bytes=bytes
 cells:z.cells.size=size
 pos:0 < size
theorem addr_add (b o j:Nat):(⟨b,o,none⟩:Addr).add j=⟨b,o + j,none⟩:=by
 unfold Addr.add
 split
 ·rename_i h;subst h;rfl
 ·rfl
section
variable {E:TypeId} {size base:Nat} {w w' : World} {a:Option Addr} {c n:Nat} {xs:List Value}
theorem OwnL.nil (E:TypeId) (size base:Nat) (w:World):OwnL E size base w none 0 0 []:=World.ownsRow_nil w base E size
theorem OwnL.kept (h:OwnL E size base w a c n xs) (hb:Below w.heap.size w w'):OwnL E size base w' a c n xs:=by
 refine ⟨h.1,?_⟩
 rcases h.2 with hn | ⟨g,cap,cur,hv,hbg,hg,rest⟩
 ·exact .inl hn
 ·exact .inr ⟨g,cap,cur,hv,hbg,by rw [hb.block g (Array.getElem?_eq_some_iff.1 hg).1];exact hg,rest⟩
theorem OwnL.alloc (h:OwnL E size base w a c n xs) (o:Obj):OwnL E size base (w.alloc o) a c n xs:=h.kept ((Below.refl _ w).alloc (Nat.le_refl _) o)
theorem OwnL.base_le {base' : Nat} (h:OwnL E size base w a c n xs) (hb:base'≤base):OwnL E size base' w a c n xs:=by
 refine ⟨h.1,?_⟩
 rcases h.2 with hn | ⟨g,cap,cur,hv,hbg,rest⟩
 ·exact .inl hn
 ·exact .inr ⟨g,cap,cur,hv,Nat.le_trans hb hbg,rest⟩
theorem OwnL.len (h:OwnL E size base w a c n xs):xs.length=n * size:=h.1
theorem OwnL.isnil (h:OwnL E size base w none c n xs):n=0∧c=0:=by
 rcases h.2 with ⟨h1,h2⟩ | ⟨g,cap,cur,hv,_⟩
 ·simp at h1;exact ⟨h2,h1.2⟩
 ·simp at hv
theorem OwnL.form (h:OwnL E size base w a c n xs):(a=none∧c=0∧n=0∧xs=[])∨∃ g,a=some ⟨g,0,none⟩∧base≤g∧g < w.heap.size∧n≤c∧c≤maxLen∧(∀ j,w.frozen? ⟨g,j,none⟩=false)∧(∀ j u,xs[j]?=some u→w.cell? ⟨g,j,none⟩=some u):=by
 have hl:=h.1
 rcases h.2 with ⟨h1,h2⟩ | ⟨g,cap,cur,hv,hbg,hg,hnc,hcm,hcs,htake⟩
 ·simp at h1
  subst h2
  exact .inl ⟨h1.1,h1.2.2,rfl,List.eq_nil_of_length_eq_zero (by simpa using hl)⟩
 ·simp only [Value.slice.injEq,true_and] at hv
  obtain ⟨rfl,rfl⟩:=hv
  refine .inr ⟨g,rfl,hbg,(Array.getElem?_eq_some_iff.1 hg).1,hnc,hcm,fun j => ?_,fun j u hu => ?_⟩
  ·exact World.ownsRow.frozenAt (xs:=xs) h j
  ·have:=World.ownsRow.cells h (g:=g) rfl j u hu
   rwa [addr_add,Nat.zero_add] at this
theorem OwnL.fits (h:OwnL E size base w a c n xs):n≤c∧c≤maxLen:=by
 rcases h.form with ⟨_,rfl,rfl,_⟩ | ⟨g,_,_,_,h1,h2,_⟩
 ·exact ⟨Nat.le_refl _,Nat.zero_le _⟩
 ·exact ⟨h1,h2⟩
theorem OwnL.lit (cs:Array Value) (hb:base≤w.heap.size) (hm:n≤maxLen) (hs:cs.size=n * size):OwnL E size base (w.alloc (.cells cs E)) (some ⟨w.heap.size,0,none⟩) n n cs.toList :=
 World.ownsRow_lit w cs n hb hm hs
def OwnV (E:TypeId) (size base n:Nat) (xs:List Value) (v:Value) (w:World):Prop:=∃ a c,v=.slice a n c∧OwnL E size base w a c n xs
theorem OwnV.kept {v:Value} (h:OwnV E size base n xs v w) (hb:Below w.heap.size w w'):OwnV E size base n xs v w' :=
 let ⟨a,c,hv,ho⟩:=h
 ⟨a,c,hv,ho.kept hb⟩
theorem OwnL.ints {zs:List Int} {n:Nat} (h:OwnL E 1 base w a c n (zs.map (Value.int .i64))):IntsAt w a zs∧n=zs.length:=by
 have hn:n=zs.length:=by have:=h.len;simp at this;exact this.symm
 refine ⟨fun k hk => ?_,hn⟩
 rcases h.form with ⟨_,_,_,h4⟩ | ⟨g,rfl,_,hlt,_,_,_,hc⟩
 ·simp at h4;subst h4;simp at hk
 ·exact ⟨g,0,rfl,hlt,by rw [Nat.zero_add];exact hc k _ (by simp [hk])⟩
def SrcAt (w:World) (ao:Option Addr) (news:List Value):Prop:=∀ j u,news[j]?=some u→∃ b off,ao=some ⟨b,off,none⟩∧w.cell? ⟨b,off + j,none⟩=some u
theorem SrcAt.ints {zs:List Int} (h:IntsAt w a zs):SrcAt w a (zs.map (Value.int .i64)):=fun j u hu => by
 have hj:j < zs.length:=by have:=(List.getElem?_eq_some_iff.1 hu).1;simpa using this
 obtain ⟨b,off,ha,_,hc⟩:=h j hj
 refine ⟨b,off,ha,?_⟩
 rw [hc]
 simp [hj] at hu ⊢
 exact hu
theorem SrcAt.own (h:OwnL E size base w a c n xs):SrcAt w a xs:=fun j u hu => by
 rcases h.form with ⟨_,_,_,rfl⟩ | ⟨g,rfl,_,_,_,_,_,hc⟩
 ·simp at hu
 ·exact ⟨g,0,rfl,by rw [Nat.zero_add];exact hc j u hu⟩
end
section
variable {P:Program} {t E:TypeId} {z:Value} {size bytes:Nat} {w:World} {ops:Array Oper} {rest:List Oper} {o:Oper} {a:Act} {Q:Exit→Act→World→Prop}
theorem zAz {base:Nat} {w w' : World} {v:Value} {e:TypeId} {n:Nat} {xs:List Value} (h:w.ownsRow base e size v n xs) (hb:base≤w.heap.size) (hg:w.grownBy w' v.ownBlock):Below base w w' :=
 (Below.refl base w).grown hg hb fun k hk => (h.lt k hk).1
theorem zA2 (el:Elem P t E z size bytes) (hgd:o.guard=none) (s x:Operand) (ho:o.op=.call { callee:=.builtin .append,args:=#[s,x],argTypes:=#[t,t] })
  (base:Nat) (a0:Option Addr) (n c0:Nat) (xs:List Value) (hs:a.eval s=.slice a0 n c0) (hown:OwnL E size base w a0 c0 n xs)
  (ao:Option Addr) (m c:Nat) (news:List Value) (hx:a.eval x=.slice ao m c) (hnone:ao=none→m=0∧c=0) (hl:news.length=m * size) (hsrc:SrcAt w ao news) (h1:∀ u ∈ news,u.oneCell'=true)
  (h63:n + m≤maxLen) (hbytes:(n + m) * bytes≤140737488355328) (hbase:base≤w.heap.size)
  (h:∀ a' c' w',OwnL E size base w' a' c' (n + m) (xs ++ news)→Below base w w'→wpList P ops Q rest (a.put o.dst (.slice a' (n + m) c')) w'):wpList P ops Q (o :: rest) a w:=by
 obtain ⟨i,hi,hz0,hz1,hz2⟩:=el.info
 cases ao with
 | none =>
  obtain ⟨rfl,rfl⟩:=hnone rfl
  have hn0:news=[]:=List.eq_nil_of_length_eq_zero (by simpa using hl)
  subst hn0
  refine wpList_plain hgd fun K hK => ?_
  have hrun:=run_append_owned_none (P:=P) (w:=w) base t o.type E i size el.slice hi _ n xs hown
  unfold Oper.wp
  simp only [execOp,ho,resolve,invoke,builtin,Sem.run_bind,Sem.run_pure,Result.andThen_ok,List.map_toArray,List.map_cons,List.map_nil,hs,hx,hrun]
  exact hK _ _ (h a0 c0 w (by simpa using hown) (Below.refl _ _))
 | some ad =>
  have hnews:∀ j u,news[j]?=some u→w.cell? (ad.add j)=some u:=fun j u hu => by
   obtain ⟨b,off,ha,hc⟩:=hsrc j u hu
   obtain rfl:=Option.some.inj ha
   rw [addr_add];exact hc
  refine wpList_append_own w hgd s x t ho base E i z size bytes el.slice hi hz0 hz1 hz2 el.cells el.pos (.slice a0 n c0) n xs hs hown ad m c news hx hl hnews h1 h63 hbytes hbase ?_
  intro v' w' h2 h3 h4
  have hv:∃ a' c',v'=.slice a' (n + m) c':=by
   rcases h2.2 with ⟨rfl,hnm⟩ | ⟨g,cap,cur,rfl,_⟩
   ·exact ⟨none,0,by rw [hnm]⟩
   ·exact ⟨_,_,rfl⟩
  obtain ⟨a',c',rfl⟩:=hv
  exact h a' c' w' h2 (zAz hown hbase h3)
theorem zBn {W:World} {cs:Array Value} {E2:TypeId} (el:Elem P t E z size bytes) (hgd:o.guard=none) (s x:Operand) (ho:o.op=.call { callee:=.builtin .append,args:=#[s,x],argTypes:=#[t,t] })
  (base:Nat) (a0:Option Addr) (n c0:Nat) (xs:List Value) (hs:a.eval s=.slice a0 n c0) (hown:OwnL E size base W a0 c0 n xs)
  (m c:Nat) (hx:a.eval x=.slice (some ⟨W.heap.size,0,none⟩) m c) (hl:cs.size=m * size) (h1:∀ u ∈ cs.toList,u.oneCell'=true)
  (h63:n + m≤maxLen) (hbytes:(n + m) * bytes≤140737488355328) (hbase:base≤W.heap.size)
  (h:∀ a' c' w',OwnL E size base w' a' c' (n + m) (xs ++ cs.toList)→Below base W w'→wpList P ops Q rest (a.put o.dst (.slice a' (n + m) c')) w'):wpList P ops Q (o :: rest) a (W.alloc (.cells cs E2)):=by
 refine zA2 el hgd s x ho base a0 n c0 xs hs (hown.alloc _) (some ⟨W.heap.size,0,none⟩) m c cs.toList hx (fun h => by cases h) (by simpa using hl) ?_ h1 h63 hbytes (by simp;omega) ?_
 ·intro j u hu
  refine ⟨_,_,rfl,?_⟩
  rw [World.cell?_alloc_at _ _ _ _ rfl,Nat.zero_add]
  simpa using hu
 ·intro a' c' w' h2 h3
  exact h a' c' w' h2 (((Below.refl base W).alloc hbase _).trans h3)
end
end Go.Proofs.YticjeianiahppaaGreatDoor
/-
 A drawn region once more: some operations (floats) yield their value in every world and may be taken first;the tail's operations wait for the whole head;values that hang on the world may be looked at by later ones of their kind.
 Conditions: the Bools 'ok2B','floatB','mask2B' over the region's own edges.
-/
namespace Go.Flow
open Go.RowKit
def zHd (ops:Array Oper) (n:Nat) (fl:Nat→Bool):Array Bool:=((List.range ops.size).map fun i => decide (i < n) || fl i).toArray
def seqJ (ops:Array Oper):List Nat→Array Bool→Bool
 | [],listed => (Region.ready .any ops listed).isEmpty
 | j :: js,listed => decide (Region.ready .any ops listed=[j]) && seqJ ops js (listed.setIfInBounds j true)
theorem zFY {P:Program} {ops:Array Oper} {Q:Exit→Act→World→Prop}:∀ (js:List Nat) (listed:Array Bool) (a:Act) (w:World),seqJ ops js listed=true→(∀ j ∈ js,j < ops.size) →
  wpList P ops Q (js.filterMap fun j => ops[j]?) a w→wpAny P .any ops Q js.length listed a w
 | [],_,_,_,hB,_,h => ⟨by simpa [seqJ] using hB,h⟩
 | j :: js,listed,a,w,hB,hin,h => by
  have h0:ops[j]?=some (ops[j]'(hin j (List.mem_cons_self ..))):=Array.getElem?_eq_getElem _
  simp only [List.length_cons,seqJ,Bool.and_eq_true,decide_eq_true_eq] at hB
  refine ⟨fun h1 => (by rw [hB.1] at h1;cases h1),fun i hi => ?_⟩
  rw [hB.1] at hi
  have hij:i=j:=by simpa using hi
  subst hij
  rw [List.filterMap_cons_some h0] at h
  have hw:wpOp P ops Q i (wpList P ops Q (js.filterMap fun j => ops[j]?)) a w:=by unfold wpOp;simp only [h0];exact h
  exact wpOp_mono (fun a' w' h' => zFY js _ a' w' hB.2 (fun j hj => hin j (List.mem_cons_of_mem _ hj)) h') hw
def ok2B (ops:Array Oper) (n:Nat) (fs js:List Nat):Bool :=
 let b:=zPH ops
 Region.noSelect ops && decide (n≤ops.size) &&
 nthB (fun j o => decide (n≤j) || o.after.all fun e => !Region.binds .any e || decide (e.on < j)) 0 ops.toList &&
 nthB (fun j o => decide (n≤j) || nthB (fun i o' => decide (j≤i) || !clash ops o' o || (b.getD j 0).testBit i) 0 ops.toList) 0 ops.toList &&
 nthB (fun j _ => decide (j < n) || fs.contains j || (List.range n).all fun i => (b.getD j 0).testBit i) 0 ops.toList &&
 (js.all fun j => decide (j < ops.size)) &&
 seqJ ops js (zHd ops n fs.contains)
structure Ok2 (ops:Array Oper) (n:Nat) (fl:Nat→Bool) (js:List Nat):Prop where
 noSel:Region.noSelect ops=true
 le:n≤ops.size
 back:∀ j,j < n→∀ o,ops[j]?=some o→∀ e ∈ o.after,Region.binds .any e=true→e.on < j
 apart:∀ i j oi oj,j < n→i < j→ops[i]?=some oi→ops[j]?=some oj→clash ops oi oj=true→Pred ops i j
 tail:∀ i j oj,i < n→n≤j→fl j=false→ops[j]?=some oj→Pred ops i j
 inb:∀ j ∈ js,j < ops.size
 seq:seqJ ops js (zHd ops n fl)=true
theorem zMF {ops:Array Oper} {n:Nat} {fs js:List Nat} (h:ok2B ops n fs js=true):Ok2 ops n fs.contains js:=by
 simp only [ok2B,Bool.and_eq_true,decide_eq_true_eq] at h
 obtain ⟨⟨⟨⟨⟨⟨h1,h2⟩,h3⟩,h4⟩,h5⟩,h6⟩,h7⟩:=h
 refine ⟨h1,h2,?_,?_,?_,?_,h7⟩
 ·intro j hj o ho e he hb
  have:=zAx _ _ h3 j o (by simpa using ho)
  simp only [Nat.zero_add,Bool.or_eq_true,decide_eq_true_eq] at this
  have:=this.resolve_left (by omega)
  rw [Array.all_eq_true_iff_forall_mem] at this
  have:=this e he
  simp [hb] at this
  exact this
 ·intro i j oi oj hj hij hi hoj hc
  have:=zAx _ _ h4 j oj (by simpa using hoj)
  simp only [Nat.zero_add,Bool.or_eq_true,decide_eq_true_eq] at this
  have:=this.resolve_left (by omega)
  have:=zAx _ _ this i oi (by simpa using hi)
  simp only [Nat.zero_add,Bool.or_eq_true,decide_eq_true_eq,Bool.not_eq_true',hc] at this
  rcases this with (h | h) | h
  ·omega
  ·cases h
  ·exact zD1 h
 ·intro i j oj hi hj hfl hoj
  have:=zAx _ _ h5 j oj (by simpa using hoj)
  simp only [Nat.zero_add,Bool.or_eq_true,decide_eq_true_eq,List.all_eq_true,List.mem_range] at this
  rcases this with (h | h) | h
  ·omega
  ·rw [hfl] at h;cases h
  ·exact zD1 (h i hi)
 ·intro j hj
  have:=List.all_eq_true.1 h6 j hj
  simpa using this
section
variable {P:Program} {ops:Array Oper} {C:World→Prop} {le:World→World→Prop} {T:Nat→Value→World→Prop} {n:Nat} {a0:Act} {Q:Exit→Act→World→Prop}
structure Inv2 (ops:Array Oper) (fl:Nat→Bool) (C:World→Prop) (T:Nat→Value→World→Prop) (n:Nat) (a0:Act) (listed:Array Bool) (a:Act) (w:World):Prop where
 size:listed.size=ops.size
 closed:Closed ops (fun i => listed.getD i false)
 tail:∀ t,n≤t→t < ops.size→listed.getD t false=fl t
 cls:C w
 defers:a.defers=a0.defers
 tsize:a.tmps.size=a0.tmps.size
 slots:∀ t,t < a0.tmps.size→zBM ops n T a0 (fun i => listed.getD i false) t (a.tmps.getD t undef) w
theorem Inv2.next {fl:Nat→Bool} {js:List Nat} (hT:∀ i v w w',T i v w→le w w'→T i v w') (ok:Ok2 ops n fl js) {listed:Array Bool} {a:Act} {w w' : World} (inv:Inv2 ops fl C T n a0 listed a w) {i:Nat} {o:Oper} {v:Value}
  (ho:ops[i]?=some o) (hin:i < n) (hun:listed.getD i false=false) (hall:∀ e ∈ o.after,Region.binds .any e=true→listed.getD e.on false=true)
  (hC:C w') (hle:le w w') (hv:T i v w'):Inv2 ops fl C T n a0 (listed.setIfInBounds i true) (a.put o.dst v) w':=by
 have his:i < listed.size:=by rw [inv.size];exact (Array.getElem?_eq_some_iff.1 ho).1
 refine ⟨by simp [inv.size],?_,?_,hC,(zCN _ _ _).trans inv.defers,(zB8 _ _ _).trans inv.tsize,?_⟩
 ·intro j oj hoj hl e he hb
  simp only [zA9 his] at hl ⊢
  by_cases h2:e.on=i
  ·simp [h2]
  ·rw [if_neg h2]
   by_cases h1:j=i
   ·subst h1
    have:oj=o:=Option.some.inj (hoj.symm.trans ho)
    subst this
    exact hall e he hb
   ·rw [if_neg h1] at hl
    exact inv.closed j oj hoj hl e he hb
 ·intro t ht hts
  rw [zA9 his,if_neg (by omega)]
  exact inv.tail t ht hts
 ·intro t ht
  have hs:=(inv.slots t ht).mono hT hle
  cases hd:o.dst with
  | none =>
   show zBM ops n T a0 _ t ((a.put none v).tmps.getD t undef) w'
   refine hs.congr fun k ok' hk hok hdk => ?_
   have hne:k≠i:=fun e => by subst e;rw [ho] at hok;cases hok;rw [hd] at hdk;cases hdk
   simp only [zA9 his,if_neg hne]
  | some d =>
   rw [zCn a d v t (by rw [inv.tsize];exact ht)]
   by_cases hdt:d=t
   ·subst hdt
    rw [if_pos rfl]
    refine .inl ⟨i,o,hin,by simp [zA9 his],ho,hd,fun k ok' hk hlk hok hdk => ?_,hv⟩
    by_cases hki:k=i
    ·omega
    ·dsimp only at hlk
     rw [zA9 his,if_neg hki] at hlk
     rcases Nat.lt_or_ge i k with h | h
     ·have hp:=ok.apart i k o ok' hk h ho hok (zCi hd (by simp [names,hdk]))
      have:=hp _ inv.closed (fun o' ho' e he hb => inv.closed k o' ho' hlk e he hb)
      simp only [hun] at this
      cases this
     ·exact h
   ·rw [if_neg hdt]
    refine hs.congr fun k ok' hk hok hdk => ?_
    have hne:k≠i:=fun e => by subst e;rw [ho] at hok;cases hok;rw [hd] at hdk;exact hdt (Option.some.inj hdk)
    simp only [zA9 his,if_neg hne]
theorem zFt {fl:Nat→Bool} {js:List Nat} (hT:∀ i v w w',T i v w→le w w'→T i v w') (ok:Ok2 ops n fl js) (hstep:∀ i o,i < n→ops[i]?=some o→Step P ops C le T n a0 i o)
  (hend:∀ a w,C w→a.defers=a0.defers→a.tmps.size=a0.tmps.size→(∀ t,t < a0.tmps.size→zBM ops n T a0 (fun k => decide (k < n)) t (a.tmps.getD t undef) w)→wpList P ops Q (js.filterMap fun j => ops[j]?) a w) :
  ∀ (d:Nat) (listed:Array Bool) (a:Act) (w:World),left (fun i => listed.getD i false) n=d→Inv2 ops fl C T n a0 listed a w→wpAny P .any ops Q (d + js.length) listed a w
 | 0,listed,a,w,hd,inv => by
  have hall:=zDQ _ n hd
  have hl:listed=zHd ops n fl:=by
   apply Array.ext
   ·simp [inv.size,zHd]
   ·intro i h1 h2
    have his:i < ops.size:=by rw [← inv.size];exact h1
    have e1:listed[i]=listed.getD i false:=by simp only [Array.getD_eq_getD_getElem?,Array.getElem?_eq_getElem h1,Option.getD_some]
    rw [e1]
    simp only [zHd,List.getElem_toArray,List.getElem_map,List.getElem_range]
    by_cases hi:i < n
    ·rw [hall i hi];simp [hi]
    ·rw [inv.tail i (by omega) his];simp [hi]
  rw [Nat.zero_add]
  refine zFY js listed a w (by rw [hl];exact ok.seq) ok.inb ?_
  refine hend a w inv.cls inv.defers inv.tsize fun t ht => ?_
  refine (inv.slots t ht).congr fun k ok' hk _ _ => ?_
  simp only [hk,decide_true]
  exact (hall k hk).symm
 | d + 1,listed,a,w,hd,inv => by
  rw [show d + 1 + js.length=(d + js.length) + 1 by omega]
  refine ⟨fun h0 => ?_,fun i hi => ?_⟩
  ·exfalso
   obtain ⟨i,hi,h1,h2⟩:=zBj _ n (by omega:left (fun i => listed.getD i false) n≠0)
   have hlt:i < ops.size:=by have:=ok.le;omega
   have hmem:i ∈ Region.ready .any ops listed:=by
    refine mem_ready.2 ⟨?_,ops[i],by simp [hlt],fun e he hb => h2 _ (ok.back i hi ops[i] (by simp [hlt]) e he hb)⟩
    have his:i < listed.size:=by rw [inv.size];exact hlt
    simp only [Array.getD_eq_getD_getElem?,Array.getElem?_eq_getElem his,Option.getD_some] at h1 ⊢
    exact h1
   rw [h0] at hmem
   cases hmem
  ·obtain ⟨hun',o,ho,hall⟩:=mem_ready.1 hi
   have hun:listed.getD i false=false:=getD_both hun'
   have hios:i < ops.size:=(Array.getElem?_eq_some_iff.1 ho).1
   have hin:i < n:=by
    rcases Nat.lt_or_ge i n with h | h
    ·exact h
    ·exfalso
     obtain ⟨m,hm,h1,_⟩:=zBj _ n (by omega:left (fun i => listed.getD i false) n≠0)
     have hfl:fl i=false:=by rw [← inv.tail i h hios];exact hun
     have:=ok.tail m i o hm h hfl ho _ inv.closed (fun o' ho' e he hb => hall e (by rw [ho] at ho'; cases ho'; exact he) hb)
     rw [h1] at this
     cases this
   have his:i < listed.size:=by rw [inv.size];exact (Array.getElem?_eq_some_iff.1 ho).1
   have hdn:left (fun k => (listed.setIfInBounds i true).getD k false) n=d:=by
    have:=zFI (fun k => listed.getD k false) (fun k => (listed.setIfInBounds i true).getD k false) i hun (by simp [zA9 his]) (fun j hj => by simp only [zA9 his,if_neg hj]) n
    rw [if_pos hin] at this
    omega
   have hlook:∀ t ∈ o.looksAt ops,t < a0.tmps.size→zBM ops n T a0 (fun k => decide (k < i)) t (a.tmps.getD t undef) w:=by
    intro t ht htl
    refine (inv.slots t htl).congr fun k ok' hk hok hdk => ?_
    rcases Nat.lt_trichotomy k i with h | h | h
    ·simp only [h,decide_true]
     have hp:=ok.apart k i ok' o hin h hok ho (zCi hdk (by simp [names,ht]))
     exact (hp _ inv.closed (fun o' ho' e he hb => hall e (by rw [ho] at ho'; cases ho'; exact he) hb)).symm
    ·subst h
     simp only [Nat.lt_irrefl,decide_false]
     exact hun.symm
    ·simp only [show ¬ k < i by omega,decide_false]
     cases hl:listed.getD k false
     ·rfl
     ·have hp:=ok.apart i k o ok' hk h ho hok (zDq hdk (by simp [names,ht]))
      have:=hp _ inv.closed (fun o' ho' e he hb => inv.closed k o' ho' hl e he hb)
      simp only [hun] at this
      cases this
   have hs:=hstep i o hin ho a w inv.cls inv.defers inv.tsize hlook
   unfold wpOp
   simp only [ho]
   by_cases hw:Region.wanted o (yielded ops a.tmps)=true
   ·rw [if_pos hw] at hs ⊢
    refine .inl (zFU ?_ hs)
    rintro a' w' ⟨v,rfl,hC,hle,hv⟩
    exact zFt hT ok hstep hend d _ _ _ hdn (inv.next hT ok ho hin hun hall hC hle hv)
   ·rw [if_neg hw] at hs ⊢
    exact zFt hT ok hstep hend d _ _ _ hdn (inv.next hT ok ho hin hun hall inv.cls hs.2 hs.1)
end
def zJr (ops:Array Oper):List Nat→List Nat→Bool
 | _,[] => true
 | done,f :: fs => (match ops[f]? with
  | none => false
  | some o => o.after.all (fun e => !Region.binds .any e || (done.contains e.on && decide (e.on < ops.size))) && !done.contains f &&
   nthB (fun j oj => decide (j=f) || done.contains j || (oj.after.any fun e => Region.binds .any e && decide (e.on=f)) || o.apart ops oj) 0 ops.toList) && zJr ops (f :: done) fs
def wpFl (P:Program) (ops:Array Oper) (K:Act→Prop):List Oper→Act→Prop
 | [],a => K a
 | o :: l,a => ∃ v,Yields P ops o v a∧wpFl P ops K l (a.put o.dst v)
theorem zAM {P:Program} {ops:Array Oper} {K:Act→Prop} {o:Oper} {l:List Oper} {a:Act} (v:Value) (hw:Region.wanted o (yielded ops a.tmps)=true) (h:∀ w,(execOp a.eval o).run P w=.ok (.value v) w) (hr:wpFl P ops K l (a.put o.dst v)):wpFl P ops K (o :: l) a:=⟨v,.inl ⟨hw,h⟩,hr⟩
def zDz (listed:Array Bool):List Nat→Array Bool
 | [] => listed
 | f :: fs => zDz (listed.setIfInBounds f true) fs
theorem zF2 {P:Program} {ops:Array Oper} {K:Act→World→Prop} {Kf:Act→Prop} (hsel:∀ (j:Nat) (o:Oper) cs b,ops[j]?=some o→o.op≠.select cs b) :
  ∀ (fs done:List Nat) (listed:Array Bool) (a:Act) (w:World) (fuel:Nat),zJr ops done fs=true→listed.size=ops.size→(∀ j,j < ops.size→listed.getD j false=done.contains j) →
   wpFl P ops Kf (fs.filterMap fun f => ops[f]?) a→(∀ a',Kf a'→a'.tmps.size=a.tmps.size→a'.defers=a.defers→wpAny P .any ops (Exit.then K (fun _ _ _ => False)) fuel (zDz listed fs) a' w) →
   wpAny P .any ops (Exit.then K (fun _ _ _ => False)) (fuel + fs.length) listed a w
 | [],_,_,a,_,_,_,_,_,hf,h => h a hf rfl rfl
 | f :: fs,done,listed,a,w,fuel,hB,hsz,hl,hf,h => by
  simp only [zJr,Bool.and_eq_true] at hB
  obtain ⟨hB1,hB2⟩:=hB
  cases ho:ops[f]? with
  | none => rw [ho] at hB1;cases hB1
  | some o =>
   rw [ho] at hB1
   simp only [Bool.and_eq_true,Bool.not_eq_true'] at hB1
   obtain ⟨⟨h1,h2⟩,h3⟩:=hB1
   have hfo:f < ops.size:=(Array.getElem?_eq_some_iff.1 ho).1
   have hfl:f < listed.size:=by rw [hsz];exact hfo
   rw [List.filterMap_cons_some ho] at hf
   obtain ⟨v,hy,hr⟩:=hf
   rw [List.length_cons,← Nat.add_assoc]
   have hready:f ∈ Region.ready .any ops listed:=by
    refine mem_ready.2 ⟨?_,o,ho,fun e he hb => ?_⟩
    ·have:=hl f hfo
     rw [h2] at this
     simp only [Array.getD_eq_getD_getElem?,Array.getElem?_eq_getElem hfl,Option.getD_some] at this ⊢
     exact this
    ·rw [Array.all_eq_true_iff_forall_mem] at h1
     have h4:=h1 e he
     simp only [hb,Bool.not_true,Bool.false_or,Bool.and_eq_true,decide_eq_true_eq] at h4
     rw [hl e.on h4.2];exact h4.1
   refine wpAny_first ho hsel (fun c a w hh => hh) (fuel + fs.length) listed a w ?_ hready hy ?_
   ·intro j oj hoj hjf hun hno
    have hjs:j < ops.size:=(Array.getElem?_eq_some_iff.1 hoj).1
    have h4:=zAx _ _ h3 j oj (by simpa using hoj)
    simp only [Nat.zero_add,Bool.or_eq_true,decide_eq_true_eq] at h4
    rcases h4 with ((h4 | h4) | h4) | h4
    ·exact absurd h4 hjf
    ·have:=hl j hjs
     rw [h4] at this
     have hjl:j < listed.size:=by rw [hsz];exact hjs
     simp only [Array.getD_eq_getD_getElem?,Array.getElem?_eq_getElem hjl,Option.getD_some] at this hun
     rw [this] at hun;cases hun
    ·rw [Array.any_eq_true] at h4
     obtain ⟨q,hq,h5⟩:=h4
     simp only [Bool.and_eq_true,decide_eq_true_eq] at h5
     exact absurd h5.2 (hno _ (Array.getElem_mem hq) h5.1)
    ·exact h4
   ·refine zF2 hsel fs (f :: done) _ _ w fuel hB2 (by simp [hsz]) ?_ hr ?_
    ·intro j hj
     rw [zA9 hfl]
     by_cases hjf:j=f
     ·simp [hjf]
     ·rw [if_neg hjf,hl j hj];simp [hjf]
    ·intro a' hk h5 h6
     exact h a' hk (h5.trans (zB8 _ _ _)) (h6.trans (zCN _ _ _))
theorem zF7:∀ (fs:List Nat) (listed:Array Bool),(zDz listed fs).size=listed.size
 | [],_ => rfl
 | f :: fs,listed => by rw [zDz,zF7 fs];simp
theorem zF8:∀ (fs:List Nat) (listed:Array Bool) (k:Nat),k < listed.size→(zDz listed fs).getD k false=(fs.contains k || listed.getD k false)
 | [],_,_,_ => by simp [zDz]
 | f :: fs,listed,k,hk => by
  rw [zDz,zF8 fs _ k (by simpa using hk)]
  by_cases hfl:f < listed.size
  ·rw [zA9 hfl]
   by_cases hkf:k=f
   ·subst hkf;simp
   ·rw [if_neg hkf];simp [hkf]
  ·have:listed.setIfInBounds f true=listed:=Array.setIfInBounds_eq_of_size_le (by omega)
   rw [this]
   have hkf:k≠f:=by omega
   simp [hkf]
theorem zLV {P:Program} {o:Oper} {a:Act} {w:World} {K1 K2 K:Act→World→Prop} {Q:Exit→Act→World→Prop} (hk:∀ a w,K1 a w→K2 a w) (h:o.wp P a w K1 (Exit.then K (fun _ _ _ => False))):o.wp P a w K2 Q:=by
 unfold Oper.wp at *
 generalize (execOp a.eval o).run P w=r at *
 cases r with
 | ok x w' =>
  cases x <;> simp only [Oper.upon] at h ⊢ <;>
   first
    | exact hk _ _ h
    | exact Calls.mono h (fun e w'' he => by cases e <;> first | exact hk _ _ he | exact he.elim | exact (let ⟨_,_,hf⟩:=he;hf.elim))
    | exact Rows.mono h (fun _ _ he => hk _ _ he)
 | halt x w' => cases x <;> simp only [Oper.upon] at h ⊢ <;> first | exact h | exact h.elim | (exact False.elim h)
theorem zCZ {P:Program} {ops:Array Oper} {K:Act→World→Prop} {Q:Exit→Act→World→Prop}:∀ (fuel:Nat) (listed:Array Bool) (a:Act) (w:World),wpAny P .any ops (Exit.then K (fun _ _ _ => False)) fuel listed a w→wpAny P .any ops (Exit.then K Q) fuel listed a w
 | 0,_,_,_,h => h
 | fuel + 1,listed,a,w,h => ⟨h.1,fun i hi => by
  have h2:=h.2 i hi
  unfold wpOp at h2 ⊢
  cases ho:ops[i]? with
  | none => rw [ho] at h2;exact zCZ fuel _ _ _ h2
  | some o =>
   rw [ho] at h2
   simp only at h2 ⊢
   split at h2
   ·rename_i hw
    rw [if_pos hw]
    rcases h2 with h2 | ⟨_,_,_,h3⟩
    ·exact .inl (zLV (fun a w hh => zCZ fuel _ a w hh) h2)
    ·exact h3.elim
   ·rename_i hw
    rw [if_neg hw]
    exact zCZ fuel _ _ _ h2⟩
def zMU (ops:Array Oper) (o:Oper):Option Tmp→Bool
 | some t => (o.looksAt ops).contains t
 | none => false
def under (ops:Array Oper) (o:Oper):List (Option Tmp × (Value→World→Prop))→(Act→World→Prop)→Act→World→Prop
 | [],K,a,w => K a w
 | (d,R) :: acc,K,a,w => ∀ v,(zMU ops o d=true→R v w)→under ops o acc K (a.put d v) w
def zAT (P:Program) (ops:Array Oper) (w:World):List Bool→List Oper→List (Value→World→Prop)→List (Option Tmp × (Value→World→Prop))→Act→Prop
 | true :: m,_ :: l,Rs,acc,a => zAT P ops w m l Rs acc a
 | false :: m,o :: l,R :: Rs,acc,a => (∀ e:Ext w,under ops o acc (fun a' w' => o.gives P a' w' fun v w'' => Below w'.heap.size w' w''∧R v w'') a e.to)∧zAT P ops w m l Rs (acc ++ [(o.dst,R)]) a
 | [],_,_,_,_ => True
 | _ :: _,[],_,_,_ => True
 | false :: _,_ :: _,[],_,_ => False
def zDD:List Bool→List Oper→List (Value→World→Prop)→Nat→List (Option Tmp × (Value→World→Prop))
 | true :: m,_ :: l,Rs,i + 1 => zDD m l Rs i
 | false :: m,o :: l,R :: Rs,i + 1 => (o.dst,R) :: zDD m l Rs i
 | _,_,_,_ => []
theorem zDg {P:Program} {ops:Array Oper} {w:World} {a:Act}:∀ (m:List Bool) (l:List Oper) (Rs:List (Value→World→Prop)) (acc:List (Option Tmp × (Value→World→Prop))) (i:Nat) (o:Oper),zAT P ops w m l Rs acc a→m[i]?=some false→l[i]?=some o →
  ∀ e:Ext w,under ops o (acc ++ zDD m l Rs i) (fun a' w' => o.gives P a' w' fun v w'' => Below w'.heap.size w' w''∧rAt m Rs i v w'') a e.to
 | [],_,_,_,_,_,_,h,_ => by simp at h
 | _ :: _,[],_,_,_,_,_,_,h => by simp at h
 | true :: m,_ :: l,Rs,acc,i,o,h,h1,h2 => by
  cases i with
  | zero => simp at h1
  | succ i => exact zDg m l Rs acc i o h (by simpa using h1) (by simpa using h2)
 | false :: m,o' :: l,[],acc,i,o,h,_,_ => h.elim
 | false :: m,o' :: l,R :: Rs,acc,i,o,h,h1,h2 => by
  cases i with
  | zero => simp at h2;subst h2;simpa [zDD,rAt] using h.1
  | succ i =>
   have:=zDg m l Rs (acc ++ [(o'.dst,R)]) i o h.2 (by simpa using h1) (by simpa using h2)
   simpa [zDD,rAt,List.append_assoc] using this
theorem zGE:∀ (m:List Bool) (l:List Oper) (Rs:List (Value→World→Prop)) (i:Nat) (p:Option Tmp × (Value→World→Prop)),p ∈ zDD m l Rs i→∃ j oj,j < i∧m[j]?=some false∧l[j]?=some oj∧p=(oj.dst,rAt m Rs j)
 | true :: m,_ :: l,Rs,i + 1,p,h => by
  obtain ⟨j,oj,h1,h2,h3,h4⟩:=zGE m l Rs i p (by simpa [zDD] using h)
  exact ⟨j + 1,oj,by omega,by simpa using h2,by simpa using h3,by simpa [rAt] using h4⟩
 | false :: m,o :: l,R :: Rs,i + 1,p,h => by
  simp only [zDD,List.mem_cons] at h
  rcases h with rfl | h
  ·exact ⟨0,o,by omega,rfl,rfl,by simp [rAt]⟩
  ·obtain ⟨j,oj,h1,h2,h3,h4⟩:=zGE m l Rs i p h
   exact ⟨j + 1,oj,by omega,by simpa using h2,by simpa using h3,by simpa [rAt] using h4⟩
 | [],_,_,_,_,h => by simp [zDD] at h
 | _ :: _,[],_,_,_,h => by simp [zDD] at h
 | true :: _,_ :: _,_,0,_,h => by simp [zDD] at h
 | false :: _,_ :: _,[],_,_,h => by simp [zDD] at h
 | false :: _,_ :: _,_ :: _,0,_,h => by simp [zDD] at h
def putG (g:Tmp→Value):List (Option Tmp × (Value→World→Prop))→Act→Act
 | [],a => a
 | p :: acc,a => putG g acc (a.put p.1 (g (p.1.getD 0)))
theorem zGS {ops:Array Oper} {o:Oper} (g:Tmp→Value):∀ (acc:List (Option Tmp × (Value→World→Prop))) (K:Act→World→Prop) (a:Act) (w:World),under ops o acc K a w →
  (∀ p ∈ acc,zMU ops o p.1=true→p.2 (g (p.1.getD 0)) w)→K (putG g acc a) w
 | [],_,_,_,h,_ => h
 | (d,R) :: acc,K,a,w,h,hr => zGS g acc K _ w (h _ (hr _ (List.mem_cons_self ..))) (fun p hp => hr p (List.mem_cons_of_mem _ hp))
theorem zFe (g:Tmp→Value):∀ (acc:List (Option Tmp × (Value→World→Prop))) (a:Act),(putG g acc a).tmps.size=a.tmps.size
 | [],_ => rfl
 | p :: acc,a => by rw [putG,zFe g acc,zB8]
theorem zHn (g:Tmp→Value) (t:Tmp):∀ (acc:List (Option Tmp × (Value→World→Prop))) (a:Act),t < a.tmps.size →
  ((∃ p ∈ acc,p.1=some t)→(putG g acc a).tmps.getD t undef=g t)∧((∀ p ∈ acc,p.1≠some t)→(putG g acc a).tmps.getD t undef=a.tmps.getD t undef)
 | [],a,_ => ⟨fun ⟨p,hp,_⟩ => (by simp at hp),fun _ => rfl⟩
 | (d,R) :: acc,a,ht => by
  obtain ⟨h1,h2⟩:=zHn g t acc (a.put d (g (d.getD 0))) (by rw [zB8];exact ht)
  refine ⟨fun ⟨p,hp,he⟩ => ?_,fun hno => ?_⟩
  ·by_cases hex:∃ p ∈ acc,p.1=some t
   ·exact h1 hex
   ·have hd:d=some t:=by
     rcases List.mem_cons.1 hp with rfl | hp
     ·exact he
     ·exact absurd ⟨p,hp,he⟩ hex
    rw [putG,h2 (fun p hp he => hex ⟨p,hp,he⟩)]
    subst hd
    rw [zCn a t _ t ht,if_pos rfl]
    rfl
  ·rw [putG,h2 (fun p hp => hno p (List.mem_cons_of_mem _ hp))]
   cases d with
   | none => rfl
   | some d =>
    have hne:d≠t:=fun e => hno (some d,R) (List.mem_cons_self ..) (by rw [e])
    rw [zCn a d _ t ht,if_neg hne]
theorem zDh {Qt:Act→Prop} {w' : World} {P:Program} {ops:Array Oper} {w:World} {a0:Act}:∀ (m:List Bool) (l:List Oper) (Rs:List (Value→World→Prop)) (acc:List (Option Tmp × (Value→World→Prop))) (v:Nat→Value) (k:Nat) (a:Act),zAT P ops w m l Rs acc a0→zAZ Qt w' m l Rs a →
  (∀ i,i < l.length→m[i]?=some false→rAt m Rs i (v (k + i)) w')→Qt (zA8 m l v k a)
 | [],_,_,_,_,_,_,_,h,_ => by simpa [zA8,zAZ] using h
 | _ :: _,[],_,_,_,_,_,_,h,_ => by simpa [zA8,zAZ] using h
 | true :: m,_ :: l,Rs,acc,v,k,a,ho,h,hr => by
  simp only [zA8]
  refine zDh m l Rs acc v (k + 1) a ho h fun i hi hm => ?_
  have:=hr (i + 1) (by simpa using hi) (by simpa using hm)
  rw [show k + 1 + i=k + (i + 1) by omega]
  exact this
 | false :: m,o :: l,[],_,v,k,a,ho,_,_ => ho.elim
 | false :: m,o :: l,R :: Rs,acc,v,k,a,ho,h,hr => by
  simp only [zA8]
  refine zDh m l Rs _ v (k + 1) _ ho.2 (h (v k) (hr 0 (by simp) rfl)) fun i hi hm => ?_
  have:=hr (i + 1) (by simpa using hi) (by simpa using hm)
  rw [show k + 1 + i=k + (i + 1) by omega]
  exact this
def zJg (ops:Array Oper) (n sz:Nat) (mask:List Bool):Bool :=
 decide (mask.length=n) && nthB (fun i o => mask.getD i true || decide (n≤i) ||
  (o.guard.isNone && (match o.dst with | some d => decide (d < sz) | none => false) && nthB (fun j o' => decide (n≤j) || ((match o.dst with | some d => (!mask.getD j true || !(o'.looksAt ops).contains d) && (decide (j=i) || o'.dst != some d) | none => true) &&
   (decide (j < i) || (match o'.dst with | some d => !(o.looksAt ops).contains d | none => true)))) 0 ops.toList)) 0 ops.toList
theorem zK8 {ops:Array Oper} {n sz:Nat} {mask:List Bool} (h:zJg ops n sz mask=true):mask.length=n∧∀ i o,ops[i]?=some o→i < n→mask[i]?=some false→(o.guard=none∧∃ d,o.dst=some d∧d < sz) ∧
  ∀ j o',ops[j]?=some o'→j < n→(∀ d,o.dst=some d→(mask[j]?=some true→d ∉ o'.looksAt ops)∧(j≠i→o'.dst≠some d))∧(i≤j→∀ d,o'.dst=some d→d ∉ o.looksAt ops):=by
 simp only [zJg,Bool.and_eq_true,decide_eq_true_eq] at h
 refine ⟨h.1,fun i o ho hi hm => ?_⟩
 have h1:=zAx _ _ h.2 i o (by simpa using ho)
 simp only [Nat.zero_add,Bool.or_eq_true,decide_eq_true_eq,Bool.and_eq_true] at h1
 rcases h1 with (h1 | h1) | h1
 ·simp [List.getD_eq_getElem?_getD,hm] at h1
 ·omega
 ·refine ⟨⟨by simpa using h1.1.1,?_⟩,fun j o' ho' hj => ?_⟩
  ·have:=h1.1.2
   cases hd:o.dst with
   | none => rw [hd] at this;simp at this
   | some d => rw [hd] at this;exact ⟨d,rfl,by simpa using this⟩
  have h2:=zAx _ _ h1.2 j o' (by simpa using ho')
  simp only [Nat.zero_add,Bool.or_eq_true,decide_eq_true_eq,Bool.and_eq_true] at h2
  have h3:=h2.resolve_left (by omega)
  refine ⟨fun d hd => ?_,fun hij d hd => ?_⟩
  ·have h4:=h3.1
   rw [hd] at h4
   simp only [Bool.and_eq_true,Bool.not_eq_true',Bool.or_eq_true,decide_eq_true_eq,bne_iff_ne] at h4
   refine ⟨fun hmj => ?_,fun hji => h4.2.resolve_left hji⟩
   have h5:=h4.1.resolve_left (by simp [List.getD_eq_getElem?_getD,hmj])
   simpa using h5
  ·have h4:=h3.2.resolve_left (by omega)
   rw [hd] at h4
   simpa using h4
theorem zHW {P:Program} {ops:Array Oper} {w:World} {a:Act} {acc:List (Option Tmp × (Value→World→Prop))}:∀ (m:List Bool) (l:List Oper) (Rs:List (Value→World→Prop)) (i j:Nat) (oj:Oper),j < i→m[j]?=some false→l[j]?=some oj→zAT P ops w m l Rs acc a→(oj.dst,rAt m Rs j) ∈ zDD m l Rs i
 | [],_,_,_,_,_,_,h,_,_ => by simp at h
 | _ :: _,[],_,_,_,_,_,_,h,_ => by simp at h
 | _ :: _,_ :: _,_,0,_,_,h,_,_,_ => by omega
 | true :: m,_ :: l,Rs,i + 1,j,oj,hji,h1,h2,ho => by
  cases j with
  | zero => simp at h1
  | succ j => exact zHW m l Rs i j oj (by omega) (by simpa using h1) (by simpa using h2) ho
 | false :: m,o :: l,[],_,_,_,_,_,_,ho => ho.elim
 | false :: m,o :: l,R :: Rs,i + 1,j,oj,hji,h1,h2,ho => by
  cases j with
  | zero => simp at h2;subst h2;simp [zDD,rAt]
  | succ j => exact List.mem_cons_of_mem _ (zHW m l Rs i j oj (by omega) (by simpa using h1) (by simpa using h2) ho.2)
theorem zGQ {P:Program} {Q:Exit→Act→World→Prop} {a:Act} {w:World} {l:List Oper} (n:Nat) (fs js:List Nat) (sz:Nat) (mask:List Bool) (Rs:List (Value→World→Prop)) (listed:Array Bool) (w1:World) (hw1:∃ e:Ext w,w1=e.to)
  (hB:ok2B l.toArray n fs js=true) (hls:listed.size=l.length) (hll:∀ k,k < l.length→listed.getD k false=fs.contains k) (hfn:∀ f ∈ fs,n≤f)
  (hcl:Closed l.toArray (fun i => listed.getD i false)) (hS:a.tmps.size=sz) (hM:zJg l.toArray n sz mask=true) (hR0:∀ R ∈ Rs,∀ v w w',R v w→Below w.heap.size w w'→R v w')
  (h:wpQB P l.toArray w
   (fun a' => zAT P l.toArray w mask (l.take n) Rs [] a'∧∀ e:Ext w,zAZ (fun a'' => wpList P l.toArray Q (js.filterMap fun j => l.toArray[j]?) a'' e.to) e.to mask (l.take n) Rs a') (zAF mask (l.take n)) a) :
  wpAny P .any l.toArray Q (n + js.length) listed a w1:=by
 have ok:=zMF hB
 have hR:=zFG (le:=fun w w' => Below w.heap.size w w') mask Rs hR0
 obtain ⟨hml,hms⟩:=zK8 hM
 have hn:n≤l.length:=by simpa using ok.le
 have hlen:(l.take n).length=n:=by simp;omega
 have hml' : mask.length=(l.take n).length:=by omega
 have hget:∀ i,i < n→(l.take n)[i]?=l[i]?:=fun i hi => by rw [List.getElem?_take,if_pos hi]
 obtain ⟨vs,hvl,hy,hobl,hend⟩:=zDK _ _ h
 rw [zBG _ _ hml',hlen] at hvl
 have hroom:zAT P l.toArray w mask (l.take n) Rs [] (zAN a (zAF mask (l.take n)) vs):=hobl
 -- what the lexical frame holds behind the first i operations
 have slot:∀ (i:Nat),i≤n→∀ (t:Tmp) (v:Value) (w' : World),t < a.tmps.size→(∀ j o,j < n→mask[j]?=some false→l[j]?=some o→o.dst≠some t) →
   zBM l.toArray n (fun i v w => if mask[i]?=some false then rAt mask Rs i v w else v=vs.getD i undef) a (fun k => decide (k < i)) t v w' →
   v=(zAN a ((zAF mask (l.take n)).take i) (vs.take i)).tmps.getD t undef:=by
  intro i hi t v w' ht hno hs
  have hli:(vs.take i).length=((zAF mask (l.take n)).take i).length:=by simp [hvl,zBG _ _ hml'];omega
  have hgn:∀ k ok',((zAF mask (l.take n)).take i)[k]?=some ok'→k < i∧∃ o',l[k]?=some o'∧o'.dst=ok'.dst:=fun k ok' hk => by
   have h1:=(List.getElem?_eq_some_iff.1 hk).1
   have hki:k < i:=by simp at h1;omega
   rw [List.getElem?_take,if_pos hki] at hk
   obtain ⟨o',b,h2,_,h3⟩:=zFj _ _ _ _ hml' hk
   rw [hget k (by omega)] at h2
   exact ⟨hki,o',h2,h3⟩
  have hto:∀ k o',k < i→l[k]?=some o'→∃ ok',((zAF mask (l.take n)).take i)[k]?=some ok'∧ok'.dst=o'.dst:=fun k o' hk ho' => by
   have hb:k < mask.length:=by omega
   have:=zBi mask (l.take n) k mask[k] o' (by simp [hb]) (by rw [hget k (by omega)];exact ho')
   refine ⟨_,by rw [List.getElem?_take,if_pos hk];exact this,?_⟩
   cases mask[k] <;> rfl
  rcases zEM _ _ a t hli ht with ⟨j,oj,h1,h2,h3,h4⟩ | ⟨h1,h2⟩
  ·obtain ⟨hj,oj',hoj,hdj⟩:=hgn j oj h1
   rcases hs with ⟨j',oj'',hj',hlt,ho',hd',hm',hv⟩ | ⟨h5,_⟩
   ·simp only [decide_eq_true_eq] at hlt
    have ho'l:l[j']?=some oj'':=by simpa using ho'
    obtain ⟨o3,h6,h7⟩:=hto j' oj'' hlt ho'l
    have e1:j'≤j:=h3 j' o3 h6 (by rw [h7];exact hd')
    have e2:j≤j':=hm' j oj' (by omega) (by simp [hj]) (by simpa using hoj) (by rw [hdj];exact h2)
    obtain rfl:j'=j:=by omega
    have hmj:mask[j']?≠some false:=fun hmf => hno j' oj'' hj' hmf ho'l hd'
    rw [if_neg hmj] at hv
    rw [hv,h4]
    simp only [List.getD_eq_getElem?_getD,List.getElem?_take,if_pos hj]
   ·exact absurd (by rw [hdj];exact h2) (h5 j oj' (by omega) (by simp [hj]) (by simpa using hoj))
  ·rcases hs with ⟨j',oj',hj',hlt,ho',hd',hm',hv⟩ | ⟨_,h5⟩
   ·simp only [decide_eq_true_eq] at hlt
    obtain ⟨o3,h6,h7⟩:=hto j' oj' hlt (by simpa using ho')
    exact absurd (by rw [h7];exact hd') (h1 j' o3 h6)
   ·rw [h5,h2]
 have hsizeA:(zAN a (zAF mask (l.take n)) vs).tmps.size=a.tmps.size:=zBT _ _ _
 have htakeN:(zAF mask (l.take n)).take n=zAF mask (l.take n):=List.take_of_length_le (by rw [zBG _ _ hml'];omega)
 have hvtN:vs.take n=vs:=List.take_of_length_le (by omega)
 have hleft:left (fun i => listed.getD i false) n=n:=by
  have:∀ m,m≤n→left (fun i => listed.getD i false) m=m:=by
   intro m
   induction m with
   | zero => intro _;rfl
   | succ m ih =>
    intro hm1
    have h1:listed.getD m false=false:=by
     rw [hll m (by omega)]
     simp only [List.contains_eq_mem,decide_eq_false_iff_not]
     intro hc
     have:=hfn m hc
     omega
    simp only [left,h1]
    rw [ih (by omega)]
    rfl
  exact this n (Nat.le_refl _)
 refine zFt (C:=fun w' => ∃ e:Ext w,w'=e.to) (le:=fun w w' => Below w.heap.size w w')
  (T:=fun i v w => if mask[i]?=some false then rAt mask Rs i v w else v=vs.getD i undef) (a0:=a) ?_ ok ?_ ?_ n listed a w1 hleft
  {size:=by simpa using hls
   closed:=hcl
   tail:=fun t _ hts => by rw [hll t (by simpa using hts)]
   cls:=hw1
   defers:=rfl
   tsize:=rfl
   slots:=fun t _ => .inr ⟨fun k ok' hk hL _ => by
    have h1:=hll k (by omega)
    simp only at hL
    rw [h1] at hL
    simp only [List.contains_eq_mem,decide_eq_true_eq] at hL
    have:=hfn k hL
    omega,rfl⟩ }
 ·intro i v w1 w2 ht hle
  split
  ·rename_i hmi;rw [if_pos hmi] at ht;exact hR i v w1 w2 ht hle
  ·rename_i hmi;rw [if_neg hmi] at ht;exact ht
 ·intro i o hi ho a' w' hC' hd hsz hlook
  have ho' : l[i]?=some o:=by simpa using ho
  have hsel:∀ cs d,o.op≠.select cs d:=fun cs d => Region.noSelect_spec ok.noSel i o cs d ho
  by_cases hmi:mask[i]?=some false
  ·-- a value that hangs on the world
   obtain ⟨⟨hg,_⟩,hj⟩:=hms i o ho hi hmi
   rw [if_pos (by simp [Region.wanted,hg])]
   obtain ⟨e,rfl⟩:=hC'
   have hsame:∀ t ∈ o.looksAt l.toArray,a'.tmps.getD t undef=(putG (fun t => a'.tmps.getD t undef) (zDD mask (l.take n) Rs i) (zAN a (zAF mask (l.take n)) vs)).tmps.getD t undef:=by
    intro t ht
    by_cases htl:t < a.tmps.size
    ·obtain ⟨g1,g2⟩:=zHn (fun t => a'.tmps.getD t undef) t (zDD mask (l.take n) Rs i) (zAN a (zAF mask (l.take n)) vs) (by rw [hsizeA];exact htl)
     by_cases hex:∃ p ∈ zDD mask (l.take n) Rs i,p.1=some t
     ·exact (g1 hex).symm
     ·have hno:∀ j oj,j < n→mask[j]?=some false→l[j]?=some oj→oj.dst≠some t:=fun j oj hjn hmj hoj hdj => by
       by_cases hji:j < i
       ·exact hex ⟨_,zHW mask (l.take n) Rs i j oj hji hmj (by rw [hget j hjn];exact hoj) hroom,hdj⟩
       ·exact (hj j oj (by simpa using hoj) hjn).2 (by omega) t hdj ht
      rw [g2 (fun p hp he => hex ⟨p,hp,he⟩)]
      have hs2:zBM l.toArray n (fun i v w => if mask[i]?=some false then rAt mask Rs i v w else v=vs.getD i undef) a (fun k => decide (k < n)) t (a'.tmps.getD t undef) e.to:=by
       refine (hlook t ht htl).congr fun k ok' hk hok hdk => ?_
       by_cases hki:k < i
       ·simp [hki,hk]
       ·exact absurd ht ((hj k ok' hok hk).2 (by omega) t hdk)
      have:=slot n (Nat.le_refl _) t _ e.to htl hno hs2
      rwa [htakeN,hvtN] at this
    ·have htl' : a.tmps.size≤t:=Nat.not_lt.1 htl
     rw [zB1 (show a'.tmps.size≤t by rw [hsz];exact htl'),zB1 (by rw [zFe,hsizeA];exact htl')]
   obtain ⟨e1,_⟩:=zCe (ops:=l.toArray) hsel hsame (by rw [zFe,hsizeA];exact hsz)
   have hob:=zGS (fun t => a'.tmps.getD t undef) _ _ _ _ (zDg mask (l.take n) Rs [] i o hobl hmi (by rw [hget i hi];exact ho') e) (fun p hp hlk => by
    rw [List.nil_append] at hp
    obtain ⟨j,oj,hji,hmj,hoj,rfl⟩:=zGE _ _ _ _ _ hp
    rw [hget j (by omega)] at hoj
    obtain ⟨⟨_,t,hdt,htsz⟩,hjj⟩:=hms j oj (by simpa using hoj) (by omega) hmj
    simp only [hdt,zMU,Option.getD_some,List.contains_eq_mem,decide_eq_true_eq] at hlk ⊢
    have htl:t < a.tmps.size:=by rw [hS];exact htsz
    rcases hlook t hlk htl with ⟨j',oj',hj',hlt,ho2,hd2,_,hv⟩ | ⟨h5,_⟩
    ·by_cases hjj' : j'=j
     ·subst hjj'; rw [if_pos hmj] at hv;exact hv
     ·exact absurd hd2 ((hjj j' oj' ho2 hj').1 t hdt |>.2 hjj')
    ·exact absurd hdt (h5 j oj (by omega) (by simp [hji]) (by simpa using hoj)))
   rw [List.nil_append] at hob
   refine zFU ?_ (zFT e1 hob)
   rintro a'' w'' ⟨v,rfl,hb,hr⟩
   exact ⟨v,rfl,⟨⟨w'',e.below.trans (hb.mono e.size)⟩,rfl⟩,hb,by dsimp only;rw [if_pos hmi];exact hr⟩
  ·-- a value that is the same in every world
   have hmt:mask[i]?=some true:=by
    have hil:i < mask.length:=by omega
    rw [List.getElem?_eq_getElem hil] at hmi ⊢
    cases hb:mask[i]
    ·rw [hb] at hmi;exact absurd rfl hmi
    ·rfl
   have hyi:=hy i o (by have:=zBi mask (l.take n) i true o hmt (by rw [hget i hi];exact ho');simpa using this)
   have hsame:∀ t ∈ o.looksAt l.toArray,a'.tmps.getD t undef=(zAN a ((zAF mask (l.take n)).take i) (vs.take i)).tmps.getD t undef:=by
    intro t ht
    by_cases htl:t < a.tmps.size
    ·refine slot i (by omega) t _ w' htl (fun j oj hjn hmj hoj hdj => ?_) (hlook t ht htl)
     exact (((hms j oj (by simpa using hoj) hjn hmj).2 i o ho hi).1 t hdj).1 hmt ht
    ·have htl' : a.tmps.size≤t:=Nat.not_lt.1 htl
     rw [zB1 (show a'.tmps.size≤t by rw [hsz];exact htl'),zB1 (by rw [zBT];exact htl')]
   obtain ⟨e1,e2⟩:=zCe (ops:=l.toArray) hsel hsame (by rw [zBT];exact hsz)
   obtain ⟨e,rfl⟩:=hC'
   -- a quiet step leaves the world or grows it
   rcases hyi.of_same e1 e2 with ⟨hw,hv⟩ | ⟨hw,hv⟩
   ·rw [if_pos hw]
    refine zFU ?_ (zEm (hv e))
    rintro a'' w'' ⟨rfl,hb⟩
    exact ⟨_,rfl,⟨⟨w'',e.below.trans (hb.mono e.size)⟩,rfl⟩,hb,by dsimp only;rw [if_neg hmi]⟩
   ·rw [if_neg (by simp [hw])]
    exact ⟨by dsimp only;rw [if_neg hmi];exact hv.symm,Below.refl _ _⟩
 ·intro a' w' hC' hd hsz hs
  obtain ⟨e,rfl⟩:=hC'
  -- the relations' values, read off the frame at hand
  have hrel:∀ i o,i < n→mask[i]?=some false→l[i]?=some o→∀ t,o.dst=some t→t < a.tmps.size→rAt mask Rs i (a'.tmps.getD t undef) e.to:=by
   intro i o hi hmi ho t hd' ht
   rcases hs t ht with ⟨j,oj,hj,_,hoj,hdj,_,hv⟩ | ⟨h5,_⟩
   ·by_cases hji:j=i
    ·subst hji;rw [if_pos hmi] at hv;exact hv
    ·exact absurd hdj (((hms i o (by simpa using ho) hi hmi).2 j oj hoj hj).1 t hd' |>.2 hji)
   ·exact absurd hd' (h5 i o hi (by simp [hi]) (by simpa using ho))
  have hval:∀ i,i < (l.take n).length→mask[i]?=some false→rAt mask Rs i (a'.tmps.getD (((l[i]?).bind (·.dst)).getD 0) undef) e.to:=by
   intro i hi hmi
   have hil:i < l.length:=by omega
   obtain ⟨⟨_,d,hd',hlt⟩,_⟩:=hms i l[i] (by simp [hil]) (by omega) hmi
   have:=hrel i l[i] (by omega) hmi (by simp [hil]) d hd' (by rw [hS];exact hlt)
   simpa [hil,hd'] using this
  have hpe:=zDh mask (l.take n) Rs [] (fun i => a'.tmps.getD (((l[i]?).bind (·.dst)).getD 0) undef) 0 _ hobl (hend e) (fun i hi hmi => by rw [Nat.zero_add];exact hval i hi hmi)
  have heq:a'=zA8 mask (l.take n) (fun i => a'.tmps.getD (((l[i]?).bind (·.dst)).getD 0) undef) 0 (zAN a (zAF mask (l.take n)) vs):=by
   have ht:a'.tmps=(zA8 mask (l.take n) (fun i => a'.tmps.getD (((l[i]?).bind (·.dst)).getD 0) undef) 0 (zAN a (zAF mask (l.take n)) vs)).tmps:=by
    apply Array.ext
    ·rw [zBf,hsizeA];exact hsz
    ·intro t h1 h2
     have hta:t < a.tmps.size:=by rw [← hsz];exact h1
     have key:a'.tmps.getD t undef=(zA8 mask (l.take n) (fun i => a'.tmps.getD (((l[i]?).bind (·.dst)).getD 0) undef) 0 (zAN a (zAF mask (l.take n)) vs)).tmps.getD t undef:=by
      by_cases hex:∃ i o,i < n∧mask[i]?=some false∧l[i]?=some o∧o.dst=some t
      ·obtain ⟨i,o,hi,hmi,ho,hd'⟩:=hex
       rw [zEC _ t mask (l.take n) 0 _ i o (by rw [hsizeA];exact hta) hmi (by rw [hget i hi];exact ho) hd' (fun j o' hji hmj ho' hdj => ?_)]
       ·simp [ho,hd']
       ·have hjn:j < n:=by have:=(List.getElem?_eq_some_iff.1 ho').1;omega
        rw [hget j hjn] at ho'
        exact ((hms i o (by simpa using ho) hi hmi).2 j o' (by simpa using ho') hjn).1 t hd' |>.2 hji hdj
      ·rw [zBq _ t mask (l.take n) 0 _ (by rw [hsizeA];exact hta) (fun i o hmi ho hd' => ?_)]
       ·have:=slot n (Nat.le_refl _) t _ e.to hta (fun j o hj hmj ho hd' => hex ⟨j,o,hj,hmj,ho,hd'⟩) (hs t hta)
        rwa [htakeN,hvtN] at this
       ·have hin:i < n:=by have:=(List.getElem?_eq_some_iff.1 ho).1;omega
        rw [hget i hin] at ho
        exact hex ⟨i,o,hin,hmi,ho,hd'⟩
     have k2:=zFs (by rw [zBf,hsizeA];exact hsz) key
     rw [Array.getElem?_eq_getElem h1,Array.getElem?_eq_getElem h2] at k2
     exact Option.some.inj k2
   have hdd:a'.defers=(zA8 mask (l.take n) (fun i => a'.tmps.getD (((l[i]?).bind (·.dst)).getD 0) undef) 0 (zAN a (zAF mask (l.take n)) vs)).defers:=by rw [zCD,zCf];exact hd
   generalize zA8 mask (l.take n) (fun i => a'.tmps.getD (((l[i]?).bind (·.dst)).getD 0) undef) 0 (zAN a (zAF mask (l.take n)) vs)=b at ht hdd
   cases a'
   cases b
   simp only at ht hdd
   rw [ht,hdd]
  rw [heq]
  simpa using hpe
def zQ4 (ops:Array Oper) (fs:List Nat):Bool:=fs.all fun f => match ops[f]? with
 | some o => o.after.all fun e => !Region.binds .any e || (fs.contains e.on && decide (e.on < ops.size))
 | none => true
def zJ6 (l:List Oper) (n:Nat) (fs js:List Nat) (sz:Nat) (mask:List Bool):Bool :=
 ok2B l.toArray n fs js && zJr l.toArray [] fs && zQ4 l.toArray fs && decide (l.length=n + js.length + fs.length) && fs.all (fun f => decide (n≤f)) && zJg l.toArray n sz mask
def zAU (l:List Oper) (js:List Nat):List Oper:=js.filterMap fun j => l.toArray[j]?
theorem zL1 (Q:Exit→Act→World→Prop):Exit.then (fun a w => Q .normal a w) Q=Q:=by
 funext e a w
 cases e <;> rfl
theorem zAD {P:Program} {Q:Exit→Act→World→Prop} {id:Nat} {a:Act} {w:World} {l:List Oper} (n:Nat) (fs js:List Nat) (sz:Nat) (mask:List Bool) (Rs:List (Value→World→Prop)) (hm:P.follows .mixedOrders=true)
  (hB:zJ6 l n fs js sz mask=true) (hS:a.tmps.size=sz) (hR0:∀ R ∈ Rs,∀ v w w',R v w→Below w.heap.size w w'→R v w')
  (h:wpFl P l.toArray (fun a => wpQB P l.toArray w
   (fun a' => zAT P l.toArray w mask (l.take n) Rs [] a'∧∀ e:Ext w,zAZ (fun a'' => wpList P l.toArray (Exit.then (fun a w => Q .normal a w) (fun _ _ _ => False)) (zAU l js) a'' e.to) e.to mask (l.take n) Rs a') (zAF mask (l.take n)) a) (zAU l fs) a) :
  (Code.region id l.toArray true).wp P Q a w:=by
 rw [← zL1 Q]
 simp only [zJ6,Bool.and_eq_true,decide_eq_true_eq] at hB
 obtain ⟨⟨⟨⟨⟨h1,h2⟩,h3⟩,h4⟩,h5⟩,h6⟩:=hB
 have ok:=zMF h1
 refine wp_region_any hm (zCZ _ _ _ _ ?_)
 have hsz:l.toArray.size=n + js.length + fs.length:=by simpa using h4
 rw [hsz]
 have hrep:(Array.replicate (n + js.length + fs.length) false).size=l.toArray.size:=by rw [hsz];simp
 refine zF2 (fun j o cs b ho => Region.noSelect_spec ok.noSel j o cs b ho) fs [] _ a _ (n + js.length) h2 hrep (fun j _ => by rw [getD_replicate_false];rfl) h ?_
 intro a' hk hts htd
 have hg:∀ k,k < l.length→(zDz (Array.replicate (n + js.length + fs.length) false) fs).getD k false=fs.contains k:=fun k hk => by
  rw [zF8 fs _ k (by rw [hrep];simpa using hk),getD_replicate_false,Bool.or_false]
 refine zGQ n fs js sz mask Rs _ _ ⟨⟨_,(Below.refl _ w).drew⟩,rfl⟩ h1 (by rw [zF7,hrep];simp) hg (fun f hf => by simpa using List.all_eq_true.1 h5 f hf) ?_ (hts.trans hS) h6 hR0 hk
 intro j oj hoj hl e he hb
 have hjl:j < l.length:=by simpa using (Array.getElem?_eq_some_iff.1 hoj).1
 simp only at hl
 rw [hg j hjl] at hl
 have hmem:j ∈ fs:=by simpa using hl
 have:=List.all_eq_true.1 h3 j hmem
 rw [hoj] at this
 simp only at this
 rw [Array.all_eq_true_iff_forall_mem] at this
 have h7:=this e he
 simp only [hb,Bool.not_true,Bool.false_or,Bool.and_eq_true,decide_eq_true_eq] at h7
 show (zDz (Array.replicate (n + js.length + fs.length) false) fs).getD e.on false=true
 rw [hg e.on (by simpa using h7.2)]
 exact h7.1
theorem zAS {P:Program} {ops:Array Oper} {K:Act→Prop} {a:Act} (h:K a):wpFl P ops K [] a:=h
theorem zAR:∀ R ∈ ([]:List (Value→World→Prop)),∀ v w w',R v w→Below w.heap.size w w'→R v w':=fun _ h => by cases h
theorem zAB {R:Value→World→Prop} {Rs:List (Value→World→Prop)} (h:∀ v w w',R v w→Below w.heap.size w w'→R v w') (hs:∀ R ∈ Rs,∀ v w w',R v w→Below w.heap.size w w'→R v w'):∀ R' ∈ R :: Rs,∀ v w w',R' v w→Below w.heap.size w w'→R' v w':=fun R' hm => by
 rcases List.mem_cons.1 hm with rfl | hm
 ·exact h
 ·exact hs R' hm
end Go.Flow
namespace Go.Proofs.YticjeianiahppaaGreatDoor
open Go.RowKit Go.Flow
theorem zBl {w:World} {a:Addr} {v:Value} (h:w.cell? a=some v):a.block < w.heap.size:=by
 by_cases e:a.block < w.heap.size
 ·exact e
 ·have:w.heap[a.block]?=none:=Array.getElem?_eq_none (by omega)
  simp [World.cell?,this] at h
theorem zAA {w w' : World} (hb:Below w.heap.size w w') {a:Addr} {v:Value} (hc:w.cell? a=some v):w'.cell? a=some v:=(hb.cell (zBl hc)).trans hc
theorem zJy {w:World} {o:Obj} {a:Addr} {v:Value} (h:w.cell? a=some v):(w.alloc o).cell? a=some v:=zAA ((Below.refl w.heap.size w).alloc (Nat.le_refl _) o) h
theorem zNE {w:World} {p a:Addr} {u v:Value} (hne:a.block≠p.block) (h:w.cell? a=some v):(w.setCell p u).cell? a=some v:=by
 rw [World.cell?_setCell_other _ _ _ _ (fun e => hne (by rw [e]))];exact h
def Cells (w:World) (g:Nat) (cs:Array Value) (T:TypeId):Prop:=w.heap[g]?=some (.cells cs T (0,0))
theorem Cells.lt {w:World} {g:Nat} {cs:Array Value} {T:TypeId} (h:Cells w g cs T):g < w.heap.size:=(Array.getElem?_eq_some_iff.1 h).1
theorem Cells.cell {w:World} {g:Nat} {cs:Array Value} {T:TypeId} (h:Cells w g cs T) (k:Nat):w.cell? ⟨g,k,none⟩=cs[k]?:=by simp [World.cell?,show w.heap[g]?=_ from h]
theorem Cells.frozen {w:World} {g:Nat} {cs:Array Value} {T:TypeId} (h:Cells w g cs T) (k:Nat):w.frozen? ⟨g,k,none⟩=false:=by simp [World.frozen?,show w.heap[g]?=_ from h]
theorem Cells.new (w:World) (cs:Array Value) (T:TypeId):Cells (w.alloc (.cells cs T)) w.heap.size cs T:=World.alloc_heap_new w _
theorem Cells.below {w w' : World} {g:Nat} {cs:Array Value} {T:TypeId} (h:Cells w g cs T) (hb:Below w.heap.size w w'):Cells w' g cs T:=(hb.block g h.lt).trans h
theorem Cells.set {w:World} {g:Nat} {cs:Array Value} {T:TypeId} (h:Cells w g cs T) (k:Nat) (v:Value):Cells (w.setCell ⟨g,k,none⟩ v) g (cs.setIfInBounds k v) T:=by
 obtain ⟨hlt,hk⟩:=Array.getElem?_eq_some_iff.1 h
 show (w.heap.modify g _)[g]?=_
 rw [Array.getElem?_eq_getElem (by rw [Array.size_modify];exact hlt),Array.getElem_modify_self,hk]
 rfl
theorem Cells.grown {w w' : World} {row:Option Nat} {g:Nat} {cs:Array Value} {T:TypeId} (h:Cells w g cs T) (hg:w.grownBy w' row) (hne:some g≠row):Cells w' g cs T:=(hg.block g h.lt hne).trans h
theorem Cells.src {w:World} {g:Nat} {cs:Array Value} {T:TypeId} (h:Cells w g cs T):SrcAt w (some ⟨g,0,none⟩) cs.toList:=fun j u hu => ⟨g,0,rfl,by rw [Nat.zero_add,h.cell];simpa using hu⟩
def PtrV (B:Nat) (cs:Array Value) (T:TypeId) (v:Value) (w:World):Prop:=∃ g,v=.pointer (some ⟨g,0,none⟩)∧B≤g∧Cells w g cs T
theorem PtrV.kept {B:Nat} {cs:Array Value} {T:TypeId} {v:Value} {w w' : World} (h:PtrV B cs T v w) (hb:Below w.heap.size w w'):PtrV B cs T v w':=let ⟨g,h1,h2,h3⟩:=h;⟨g,h1,h2,h3.below hb⟩
def LitV (B n:Nat) (cs:Array Value) (T:TypeId) (v:Value) (w:World):Prop:=∃ g,v=.slice (some ⟨g,0,none⟩) n n∧B≤g∧Cells w g cs T
theorem LitV.kept {B n:Nat} {cs:Array Value} {T:TypeId} {v:Value} {w w' : World} (h:LitV B n cs T v w) (hb:Below w.heap.size w w'):LitV B n cs T v w':=let ⟨g,h1,h2,h3⟩:=h;⟨g,h1,h2,h3.below hb⟩
section
variable {P:Program} {t E:TypeId} {z:Value} {size bytes:Nat} {w:World} {ops:Array Oper} {rest:List Oper} {o:Oper} {a:Act} {Q:Exit→Act→World→Prop}
theorem zBp (el:Elem P t E z size bytes) (hgd:o.guard=none) (s x:Operand) (ho:o.op=.call { callee:=.builtin .append,args:=#[s,x],argTypes:=#[t,t] })
  (base:Nat) (a0:Option Addr) (n c0:Nat) (xs:List Value) (hs:a.eval s=.slice a0 n c0) (hown:OwnL E size base w a0 c0 n xs)
  (ao:Option Addr) (m c:Nat) (news:List Value) (hx:a.eval x=.slice ao m c) (hnone:ao=none→m=0∧c=0) (hl:news.length=m * size) (hsrc:SrcAt w ao news) (h1:∀ u ∈ news,u.oneCell'=true)
  (h63:n + m≤maxLen) (hbytes:(n + m) * bytes≤140737488355328) (hbase:base≤w.heap.size)
  (h:∀ a' c' w',OwnL E size base w' a' c' (n + m) (xs ++ news)→Below base w w'→w.grownBy w' (Value.slice a0 n c0).ownBlock→wpList P ops Q rest (a.put o.dst (.slice a' (n + m) c')) w'):wpList P ops Q (o :: rest) a w:=by
 obtain ⟨i,hi,hz0,hz1,hz2⟩:=el.info
 cases ao with
 | none =>
  obtain ⟨rfl,rfl⟩:=hnone rfl
  have hn0:news=[]:=List.eq_nil_of_length_eq_zero (by simpa using hl)
  subst hn0
  refine wpList_plain hgd fun K hK => ?_
  have hrun:=run_append_owned_none (P:=P) (w:=w) base t o.type E i size el.slice hi _ n xs hown
  unfold Oper.wp
  simp only [execOp,ho,resolve,invoke,builtin,Sem.run_bind,Sem.run_pure,Result.andThen_ok,List.map_toArray,List.map_cons,List.map_nil,hs,hx,hrun]
  exact hK _ _ (h a0 c0 w (by simpa using hown) (Below.refl _ _) (World.grownBy.refl _ _))
 | some ad =>
  have hnews:∀ j u,news[j]?=some u→w.cell? (ad.add j)=some u:=fun j u hu => by
   obtain ⟨b,off,ha,hc⟩:=hsrc j u hu
   obtain rfl:=Option.some.inj ha
   rw [addr_add];exact hc
  refine wpList_append_own w hgd s x t ho base E i z size bytes el.slice hi hz0 hz1 hz2 el.cells el.pos (.slice a0 n c0) n xs hs hown ad m c news hx hl hnews h1 h63 hbytes hbase ?_
  intro v' w' h2 h3 h4
  have hv:∃ a' c',v'=.slice a' (n + m) c':=by
   rcases h2.2 with ⟨rfl,hnm⟩ | ⟨g,cap,cur,rfl,_⟩
   ·exact ⟨none,0,by rw [hnm]⟩
   ·exact ⟨_,_,rfl⟩
  obtain ⟨a',c',rfl⟩:=hv
  exact h a' c' w' h2 (zAz hown hbase h3) h3
end
theorem OwnL.grown {E:TypeId} {size base:Nat} {w w' : World} {a:Option Addr} {c n:Nat} {xs:List Value} {row:Option Nat} (h:OwnL E size base w a c n xs) (hg:w.grownBy w' row) (hne:∀ g,row=some g→(Value.slice a n c).ownBlock≠some g):OwnL E size base w' a c n xs:=by
 refine ⟨h.1,?_⟩
 rcases h.2 with hn | ⟨g',cap,cur,hv,hbg,hg',rest⟩
 ·exact .inl hn
 ·refine .inr ⟨g',cap,cur,hv,hbg,?_,rest⟩
  rw [hg.block g' (Array.getElem?_eq_some_iff.1 hg').1 (fun e => hne g' e.symm (by rw [hv];rfl))]
  exact hg'
theorem OwnL.apart {E E' : TypeId} (hE:E≠E') {size size' base base' : Nat} {w:World} {a a' : Option Addr} {c n c' n' : Nat} {xs xs' : List Value} (h:OwnL E size base w a c n xs) (k:OwnL E' size' base' w a' c' n' xs'):∀ g,(Value.slice a' n' c').ownBlock=some g→(Value.slice a n c).ownBlock≠some g:=by
 intro g hg hg2
 rcases h.2 with ⟨h1,_⟩ | ⟨g1,cap,cur,h1,_,hgb,_⟩
 ·rw [h1] at hg2;simp [Value.ownBlock] at hg2
 ·rcases k.2 with ⟨k1,_⟩ | ⟨g2,cap2,cur2,k1,_,kgb,_⟩
  ·rw [k1] at hg;simp [Value.ownBlock] at hg
  ·rw [h1] at hg2;rw [k1] at hg
   simp [Value.ownBlock] at hg hg2
   subst hg;subst hg2
   rw [hgb] at kgb
   simp at kgb
   exact hE kgb.2
theorem zBR {fn:Func} {c:Tmp} {T:TypeId} {tmps:Array Value} {P:Program} {w:World} {a:Addr} {v:Value} (h:fn.results=#[.cell c T]) (ha:tmps.getD c undef=.pointer (some a))
  (hv:(loadVar T a).run P w=.ok v w):(results fn tmps).run P w=.ok v w:=by
 rw [Array.getD_eq_getD_getElem?] at ha
 simp [results,h,ha,asAddr,hv]
theorem Cells.other {w:World} {g g' : Nat} {cs:Array Value} {T:TypeId} (h:Cells w g cs T) (hne:g≠g') (k:Nat) (v:Value):Cells (w.setCell ⟨g',k,none⟩ v) g cs T :=
 (Below.heap_setCell w ⟨g',k,none⟩ v g hne).trans h
theorem zDL {E:TypeId} {base size:Nat} {w:World} {g c n:Nat} {xs:List Value} (h:OwnL E size base w (some ⟨g,0,none⟩) c n xs) {p:Addr} (hp:p.block≠g) (u:Value):OwnL E size base (w.setCell p u) (some ⟨g,0,none⟩) c n xs :=
 ownsRow_setCell_other h (fun e => hp (by simp [Value.ownBlock] at e;exact e.symm)) u
theorem Cells.ints {w:World} {g:Nat} {cs:Array Value} {T:TypeId} (h:Cells w g cs T) (l:List Int) (hl:cs.toList=l.map (Value.int .i64)):IntsAt w (some ⟨g,0,none⟩) l:=fun k hk => by
 refine ⟨g,0,rfl,h.lt,?_⟩
 rw [Nat.zero_add,h.cell,← Array.getElem?_toList,hl]
 simp [hk]
theorem Cells.alloc {w:World} {g:Nat} {cs:Array Value} {T:TypeId} (h:Cells w g cs T) (o:Obj):Cells (w.alloc o) g cs T:=h.below ((Below.refl _ _).alloc (Nat.le_refl _) _)
theorem Cells.new' (w:World) (cs:Array Value) (T:TypeId) (B:Nat) (hB:B=w.heap.size):Cells (w.alloc (.cells cs T)) B cs T:=by subst hB;exact Cells.new w cs T
section
variable {P:Program} {ops:Array Oper} {w:World} {m:List Bool} {o:Oper} {l:List Oper} {R:Value→World→Prop} {Rs:List (Value→World→Prop)} {acc:List (Option Tmp × (Value→World→Prop))} {a:Act} {d:Option Tmp} {K:Act→World→Prop} {Q:Act→Prop}
end
end Go.Proofs.YticjeianiahppaaGreatDoor
namespace Go.Flow
open Go.RowKit
theorem zF9 {n:Nat} {P:Program} {row:String} {args:Array Value} {w:World} {R:Value→World→Prop} (h:Rows P row args w R):RowsIn Fence.wide n P row args w R :=
 fun c cs _ => let ⟨v,w',r,s⟩:=h c cs;⟨v,w',r,stepsIn_wide.2 s⟩
theorem zK1 {l0 m0:Nat} {P:Program} {o:Oper} {a:Act} {w:World} {K:Act→World→Prop} {Q:Exit→Act→World→Prop} (hd:∀ c,o.op≠.defer c) (h:o.wp P a w K (fun _ _ _ => False)) :
  o.wpIn (Fence.wide.inRound l0) m0 P a w K Q:=by
 unfold Oper.wpIn
 refine ⟨fun _ _ => trivial,?_⟩
 rw [show (Fence.wide.inRound l0).round=some l0 from rfl,Oper.semAt_some _ _ _ hd]
 unfold Oper.wp at h
 generalize (execOp a.eval o).run P w=r at *
 cases r with
 | ok x w' =>
  cases x with
  | enter f args =>
   simp only [Oper.upon] at h
   simp only [Oper.uponIn]
   refine ⟨fun h => (by cases h),CallsIn.inRound l0 (callsIn_wide.2 (h.mono fun e w'' he => ?_))⟩
   cases e <;> first | exact he | exact he.elim | exact (let ⟨_,_,hf⟩:=he;hf.elim)
  | row r args =>
   simp only [Oper.upon] at h
   simp only [Oper.uponIn]
   exact ⟨fun h => (by cases h),zF9 h⟩
  | _ => simp only [Oper.upon] at h <;> first | exact h | exact h.elim
 | halt x w' => cases x <;> simp only [Oper.upon] at h
theorem zLz {m0:Nat} {P:Program} {o:Oper} {a:Act} {w:World} {K:Act→World→Prop} {Q:Exit→Act→World→Prop} (h:o.wp P a w K (fun _ _ _ => False)) :
  o.wpIn Fence.wide m0 P a w K Q:=by
 unfold Oper.wpIn
 refine ⟨fun _ _ => trivial,?_⟩
 rw [show Oper.semAt Fence.wide.round a.eval o=execOp a.eval o by show Oper.semAt none a.eval o=_;simp [Oper.semAt]]
 unfold Oper.wp at h
 generalize (execOp a.eval o).run P w=r at *
 cases r with
 | ok x w' =>
  cases x with
  | enter f args =>
   simp only [Oper.upon] at h
   simp only [Oper.uponIn]
   refine ⟨fun h => (by cases h),callsIn_wide.2 (h.mono fun e w'' he => ?_)⟩
   cases e <;> first | exact he | exact he.elim | exact (let ⟨_,_,hf⟩:=he;hf.elim)
  | row r args =>
   simp only [Oper.upon] at h
   simp only [Oper.uponIn]
   exact ⟨fun h => (by cases h),zF9 h⟩
  | _ => simp only [Oper.upon] at h <;> first | exact h | exact h.elim
 | halt x w' => cases x <;> simp only [Oper.upon] at h
/-- A fence in which every operation that is no defer goes as outside. -/
structure OpF (F:Fence) (m0:Nat) (P:Program):Prop where
 op:∀ {o:Oper} {a:Act} {w:World} {K:Act→World→Prop} {Q:Exit→Act→World→Prop},(∀ c,o.op≠.defer c)→o.wp P a w K (fun _ _ _ => False)→o.wpIn F m0 P a w K Q
 fn:∀ f,F.fn f
section
variable {F:Fence} {n:Nat} {P:Program} {ops:Array Oper} {md:Region.Mode}
theorem zDd {Q' : Exit→Act→World→Prop}:∀ (l:List Oper) (k:Nat) (listed:Array Bool) (a:Act) (w:World),(∀ j,l[j]?=ops[k + j]?) →
  Region.seqB md ops l.length k listed=true→wpListIn F n P ops Q' l a w→wpAnyIn F n P md ops Q' l.length listed a w
 | [],_,_,_,_,_,hB,h => ⟨by simpa [Region.seqB] using hB,h⟩
 | o :: l,k,listed,a,w,hl,hB,h => by
  have h0:ops[k]?=some o:=by simpa using (hl 0).symm
  simp only [List.length_cons,Region.seqB,Bool.and_eq_true,decide_eq_true_eq] at hB
  refine ⟨fun h1 => (by rw [hB.1] at h1;cases h1),fun i hi => ?_⟩
  rw [hB.1] at hi
  have hik:i=k:=by simpa using hi
  subst hik
  have hw:wpOpIn F n P ops Q' i (wpListIn F n P ops Q' l) a w:=by unfold wpOpIn;simp only [h0];exact h
  exact wpOpIn_mono (fun a' w' h' => zDd l (i + 1) _ a' w' (fun j => by have:=hl (j + 1);simpa [Nat.add_assoc,Nat.add_comm 1 j] using this) hB.2 h') hw
end
section
variable {F:Fence} {m0:Nat} {P:Program} {ops:Array Oper} {C:World→Prop} {le:World→World→Prop} {T:Nat→Value→World→Prop} {n:Nat} {a0:Act} {Q:Exit→Act→World→Prop}
theorem zEc (hF:OpF F m0 P) (hT:∀ i v w w',T i v w→le w w'→T i v w') (hnd:∀ o ∈ ops,∀ c,o.op≠.defer c) (ok:Ok ops n) (hstep:∀ i o,i < n→ops[i]?=some o→Step P ops C le T n a0 i o)
  (hend:∀ a w,C w→a.defers=a0.defers→a.tmps.size=a0.tmps.size→(∀ t,t < a0.tmps.size→zBM ops n T a0 (fun k => decide (k < n)) t (a.tmps.getD t undef) w)→wpListIn F m0 P ops Q (ops.toList.drop n) a w) :
  ∀ (d:Nat) (listed:Array Bool) (a:Act) (w:World),left (fun i => listed.getD i false) n=d→Inv ops C T n a0 listed a w→wpAnyIn F m0 P .any ops Q (d + (ops.size - n)) listed a w
 | 0,listed,a,w,hd,inv => by
  have hall:=zDQ _ n hd
  have hl:listed=Array.replicate n true ++ Array.replicate (ops.size - n) false:=by
   have hle:=ok.le
   apply Array.ext
   ·simp [inv.size];omega
   ·intro i h1 h2
    by_cases hi:i < n
    ·have:=hall i hi
     simp only [Array.getD_eq_getD_getElem?,Array.getElem?_eq_getElem h1,Option.getD_some] at this
     rw [this];simp [hi]
    ·have:=inv.tail i (by omega)
     simp only [Array.getD_eq_getD_getElem?,Array.getElem?_eq_getElem h1,Option.getD_some] at this
     rw [this];simp [Array.getElem_append,hi]
  rw [Nat.zero_add]
  have hlen:(ops.toList.drop n).length=ops.size - n:=by simp
  rw [← hlen]
  refine zDd (md:=.any) (ops.toList.drop n) n listed a w (fun j => by simp [List.getElem?_drop]) (by rw [hlen,hl];exact ok.seq) ?_
  refine hend a w inv.cls inv.defers inv.tsize fun t ht => ?_
  refine (inv.slots t ht).congr fun k ok' hk _ _ => ?_
  simp only [hk,decide_true]
  exact (hall k hk).symm
 | d + 1,listed,a,w,hd,inv => by
  rw [show d + 1 + (ops.size - n)=(d + (ops.size - n)) + 1 by omega]
  refine ⟨fun h0 => ?_,fun i hi => ?_⟩
  ·exfalso
   obtain ⟨i,hi,h1,h2⟩:=zBj _ n (by omega:left (fun i => listed.getD i false) n≠0)
   have hlt:i < ops.size:=by have:=ok.le;omega
   have hmem:i ∈ Region.ready .any ops listed:=by
    refine mem_ready.2 ⟨?_,ops[i],by simp [hlt],fun e he hb => h2 _ (ok.back i ops[i] (by simp [hlt]) e he hb)⟩
    have his:i < listed.size:=by rw [inv.size];exact hlt
    simp only [Array.getD_eq_getD_getElem?,Array.getElem?_eq_getElem his,Option.getD_some] at h1 ⊢
    exact h1
   rw [h0] at hmem
   cases hmem
  ·obtain ⟨hun',o,ho,hall⟩:=mem_ready.1 hi
   have hun:listed.getD i false=false:=getD_both hun'
   have hin:i < n:=by
    rcases Nat.lt_or_ge i n with h | h
    ·exact h
    ·exfalso
     obtain ⟨m,hm,h1,_⟩:=zBj _ n (by omega:left (fun i => listed.getD i false) n≠0)
     have:=ok.tail m i o h (by omega) ho _ inv.closed (fun o' ho' e he hb => hall e (by rw [ho] at ho'; cases ho'; exact he) hb)
     rw [h1] at this
     cases this
   have his:i < listed.size:=by rw [inv.size];exact (Array.getElem?_eq_some_iff.1 ho).1
   have hdn:left (fun k => (listed.setIfInBounds i true).getD k false) n=d:=by
    have:=zFI (fun k => listed.getD k false) (fun k => (listed.setIfInBounds i true).getD k false) i hun (by simp [zA9 his]) (fun j hj => by simp only [zA9 his,if_neg hj]) n
    rw [if_pos hin] at this
    omega
   have hlook:∀ t ∈ o.looksAt ops,t < a0.tmps.size→zBM ops n T a0 (fun k => decide (k < i)) t (a.tmps.getD t undef) w:=by
    intro t ht htl
    refine (inv.slots t htl).congr fun k ok' hk hok hdk => ?_
    rcases Nat.lt_trichotomy k i with h | h | h
    ·simp only [h,decide_true]
     have hp:=ok.apart k i ok' o hin h hok ho (zCi hdk (by simp [names,ht]))
     exact (hp _ inv.closed (fun o' ho' e he hb => hall e (by rw [ho] at ho'; cases ho'; exact he) hb)).symm
    ·subst h
     simp only [Nat.lt_irrefl,decide_false]
     exact hun.symm
    ·simp only [show ¬ k < i by omega,decide_false]
     cases hl:listed.getD k false
     ·rfl
     ·have hp:=ok.apart i k o ok' hk h ho hok (zDq hdk (by simp [names,ht]))
      have:=hp _ inv.closed (fun o' ho' e he hb => inv.closed k o' ho' hl e he hb)
      simp only [hun] at this
      cases this
   have hs:=hstep i o hin ho a w inv.cls inv.defers inv.tsize hlook
   unfold wpOpIn
   simp only [ho]
   by_cases hw:Region.wanted o (yielded ops a.tmps)=true
   ·rw [if_pos hw] at hs ⊢
    refine hF.op (hnd o (Array.mem_of_getElem? ho)) (zFU ?_ hs)
    rintro a' w' ⟨v,rfl,hC,hle,hv⟩
    exact zEc hF hT hnd ok hstep hend d _ _ _ hdn (inv.next hT ok ho hin hun hall hC hle hv)
   ·rw [if_neg hw] at hs ⊢
    exact ⟨fun _ _ => hF.fn _,zEc hF hT hnd ok hstep hend d _ _ _ hdn (inv.next hT ok ho hin hun hall inv.cls hs.2 hs.1)⟩
theorem zEu (hF:OpF F m0 P) {id:Nat} {w:World} (hm:P.follows .mixedOrders=true) (hnd:∀ o ∈ ops,∀ c,o.op≠.defer c) (hB:okB ops n=true) (hC:C { w with drawn:=w.drawn + 1 })
  (hT:∀ i v w w',T i v w→le w w'→T i v w') (hstep:∀ i o,i < n→ops[i]?=some o→Step P ops C le T n a0 i o)
  (hend:∀ a w,C w→a.defers=a0.defers→a.tmps.size=a0.tmps.size→(∀ t,t < a0.tmps.size→zBM ops n T a0 (fun k => decide (k < n)) t (a.tmps.getD t undef) w)→wpListIn F m0 P ops Q (ops.toList.drop n) a w) :
  (Code.region id ops true).wpIn F m0 P Q a0 w:=by
 have ok:=zME hB
 refine wpIn_region_any hm ?_
 have hl:left (fun i => (Array.replicate ops.size false).getD i false) n=n:=by
  have:(fun i => (Array.replicate ops.size false).getD i false)=(fun _ => false):=funext fun i => getD_replicate_false _ _
  rw [this,zJk]
 have:=zEc (Q:=Q) hF hT hnd ok hstep hend n (Array.replicate ops.size false) a0 { w with drawn:=w.drawn + 1 } hl
  {size:=by simp
   closed:=fun j o _ h => (by simp only [getD_replicate_false] at h;cases h)
   tail:=fun t _ => getD_replicate_false _ _
   cls:=hC
   defers:=rfl
   tsize:=rfl
   slots:=fun t _ => .inr ⟨fun k ok' _ h => (by simp only [getD_replicate_false] at h;cases h),rfl⟩ }
 rwa [show n + (ops.size - n)=ops.size by have:=ok.le;omega] at this
end
section
variable {F:Fence} {m0:Nat} {P:Program} {ops:Array Oper} {C:World→Prop} {Q:Exit→Act→World→Prop}
theorem zBc (hF:OpF F m0 P) {id:Nat} {a:Act} {w:World} {l:List Oper} (n:Nat) (hm:P.follows .mixedOrders=true) (hnd:∀ o ∈ l.toArray,∀ c,o.op≠.defer c) (hB:okB l.toArray n=true) (hC:C { w with drawn:=w.drawn + 1 })
  (h:wpQuiet P l.toArray C (fun a' => ∀ w',C w'→wpListIn F m0 P l.toArray Q (l.drop n) a' w') (l.take n) a):(Code.region id l.toArray true).wpIn F m0 P Q a w:=by
 obtain ⟨vs,hvl,hy,hq⟩:=zDi _ _ h
 have ok:=zME hB
 have hn:n≤l.length:=by simpa using ok.le
 have hlen:(l.take n).length=n:=by simp;omega
 rw [hlen] at hvl
 have hget:∀ i,i < n→(l.take n)[i]?=l[i]?:=fun i hi => by rw [List.getElem?_take,if_pos hi]
 have htt:∀ i,i≤n→(l.take n).take i=l.take i:=fun i hi => by rw [List.take_take,Nat.min_eq_left hi]
 -- what the slots hold in the text's order
 have slot:∀ (i:Nat),i≤n→∀ (t:Tmp) (v:Value) (w:World),t < a.tmps.size→zBM l.toArray n (fun i v _ => v=vs.getD i undef) a (fun k => decide (k < i)) t v w →
   v=(zAN a ((l.take n).take i) (vs.take i)).tmps.getD t undef:=by
  intro i hi t v w ht hs
  have hli:(vs.take i).length=((l.take n).take i).length:=by simp [hvl];omega
  have hgi:∀ k,k < i→((l.take n).take i)[k]?=l[k]?:=fun k hk => by rw [htt i hi,List.getElem?_take,if_pos hk]
  have hgn:∀ k ok',((l.take n).take i)[k]?=some ok'→k < i:=fun k ok' hk => by
   have:=(List.getElem?_eq_some_iff.1 hk).1
   simp at this;omega
  rcases zEM _ _ a t hli ht with ⟨j,oj,h1,h2,h3,h4⟩ | ⟨h1,h2⟩
  ·have hj:j < i:=hgn j oj h1
   rw [hgi j hj] at h1
   rcases hs with ⟨j',oj',hj',hlt,ho',hd',hm',hv⟩ | ⟨h5,_⟩
   ·simp only [decide_eq_true_eq] at hlt
    have e1:j'≤j:=h3 j' oj' (by rw [hgi j' hlt];simpa using ho') hd'
    have e2:j≤j':=hm' j oj (by omega) (by simp [hj]) (by simpa using h1) h2
    obtain rfl:j'=j:=by omega
    rw [hv,h4]
    simp only [List.getD_eq_getElem?_getD,List.getElem?_take,if_pos hj]
   ·exact absurd h2 (h5 j oj (by omega) (by simp [hj]) (by simpa using h1))
  ·rcases hs with ⟨j',oj',hj',hlt,ho',hd',hm',hv⟩ | ⟨_,h5⟩
   ·simp only [decide_eq_true_eq] at hlt
    exact absurd hd' (h1 j' oj' (by rw [hgi j' hlt];simpa using ho'))
   ·rw [h5,h2]
 refine zEu (C:=C) (le:=fun _ _ => True) (T:=fun i v _ => v=vs.getD i undef) hF hm hnd hB hC (fun _ _ _ _ h _ => h) ?_ ?_
 ·intro i o hi ho a' w' hC' hd hsz hlook
  have ho' : l[i]?=some o:=by simpa using ho
  have hyi:=hy i o (by rw [hget i hi];exact ho')
  have hsel:∀ cs d,o.op≠.select cs d:=fun cs d => Region.noSelect_spec ok.noSel i o cs d ho
  have hsame:∀ t ∈ o.looksAt l.toArray,a'.tmps.getD t undef=(zAN a ((l.take n).take i) (vs.take i)).tmps.getD t undef:=by
   intro t ht
   by_cases htl:t < a.tmps.size
   ·exact slot i (by omega) t _ w' htl (hlook t ht htl)
   ·have htl' : a.tmps.size≤t:=Nat.not_lt.1 htl
    rw [zB1 (show a'.tmps.size≤t by rw [hsz];exact htl'),zB1 (show (zAN a ((l.take n).take i) (vs.take i)).tmps.size≤t by rw [zBT];exact htl')]
  obtain ⟨e1,e2⟩:=zCe (ops:=l.toArray) hsel hsame (by rw [zBT];exact hsz)
  rcases hyi.of_same e1 e2 with ⟨hw,hv⟩ | ⟨hw,hv⟩
  ·rw [if_pos hw]
   refine Oper.wp_of_quiet (C:=C) (K:=fun a'' => a''=a'.put o.dst (vs.getD i undef)) hC' (fun a'' w'' hC'' e => ⟨_,e,hC'',trivial,rfl⟩) ⟨_,hv,rfl⟩
  ·rw [if_neg (by simp [hw])]
   exact ⟨hv.symm,trivial⟩
 ·intro a' w' hC' hd hsz hs
  have htake:(l.take n).take n=l.take n:=by rw [List.take_take,Nat.min_self]
  have hvt:vs.take n=vs:=List.take_of_length_le (by omega)
  have heq:a'=zAN a (l.take n) vs:=by
   have ht:a'.tmps=(zAN a (l.take n) vs).tmps:=by
    apply Array.ext
    ·rw [zBT];exact hsz
    ·intro i h1 h2
     have hia:i < a.tmps.size:=by rw [← hsz];exact h1
     have:=slot n (Nat.le_refl _) i _ w' hia (hs i hia)
     rw [htake,hvt] at this
     simpa only [Array.getD_eq_getD_getElem?,Array.getElem?_eq_getElem h1,Array.getElem?_eq_getElem h2,Option.getD_some] using this
   have hdd:a'.defers=(zAN a (l.take n) vs).defers:=by rw [zCf];exact hd
   cases a'
   cases hb:zAN a (l.take n) vs
   rw [hb] at ht hdd
   simp only at ht hdd
   rw [ht,hdd]
  rw [heq]
  have:=hq w' hC'
  simpa using this
end
def zGu (l:List Oper):Bool:=l.all fun o => match o.op with | .defer _ => false | _ => true
theorem zG5 {l:List Oper} (h:zGu l=true):∀ o ∈ l.toArray,∀ c,o.op≠.defer c:=fun o ho c hc => by
 have:=List.all_eq_true.1 h o (by simpa using ho)
 rw [hc] at this
 cases this
variable {l0 m0:Nat}
theorem zFX {P:Program} {Q:Exit→Act→World→Prop} {id:Nat} {a:Act} {w:World} {l:List Oper} (n:Nat) (hm:P.follows .mixedOrders=true) (hN:zGu l=true) (hB:okB l.toArray n=true)
  (h:wpQuiet P l.toArray (fun w' => ∃ e:Ext w,w'=e.to) (fun a' => ∀ w',(∃ e:Ext w,w'=e.to)→wpListIn (Fence.wide.inRound l0) m0 P l.toArray Q (l.drop n) a' w') (l.take n) a):(Code.region id l.toArray true).wpIn (Fence.wide.inRound l0) m0 P Q a w :=
 zBc ⟨fun hd h => zK1 hd h,fun _ => trivial⟩ n hm (zG5 hN) hB ⟨⟨_,(Below.refl _ w).drew⟩,rfl⟩ h
theorem zLT {P:Program} {Q:Exit→Act→World→Prop} {id:Nat} {a:Act} {w:World} {l:List Oper} (n:Nat) (hm:P.follows .mixedOrders=true) (hN:zGu l=true) (hB:okB l.toArray n=true)
  (h:wpQuiet P l.toArray (fun w' => ∃ e:Ext w,w'=e.to) (fun a' => ∀ w',(∃ e:Ext w,w'=e.to)→wpListIn Fence.wide m0 P l.toArray Q (l.drop n) a' w') (l.take n) a):(Code.region id l.toArray true).wpIn Fence.wide m0 P Q a w :=
 zBc ⟨fun _ h => zLz h,fun _ => trivial⟩ n hm (zG5 hN) hB ⟨⟨_,(Below.refl _ w).drew⟩,rfl⟩ h
end Go.Flow
namespace Go.Proofs.YticjeianiahppaaGreatDoor
open Go.RowKit Go.Flow
section
variable {P:Program} {t E:TypeId} {z:Value} {size bytes:Nat} {ops:Array Oper} {rest:List Oper} {o:Oper} {a:Act} {Q:Exit→Act→World→Prop}
def Apart (a1 a2:Option Addr):Prop:=∀ x y,a1=some x→a2=some y→x.block≠y.block
theorem OwnL.old {E:TypeId} {size base:Nat} {w:World} {a:Option Addr} {c n:Nat} {xs:List Value} (h:OwnL E size base w a c n xs) {x:Addr} (hx:a=some x):x.block < w.heap.size:=by
 rcases h.form with ⟨h1,_⟩ | ⟨g,h1,_,h2,_⟩
 ·rw [h1] at hx;cases hx
 ·rw [h1] at hx;cases hx;exact h2
theorem zCd {W:World} {cs:Array Value} {E2:TypeId} (el:Elem P t E z size bytes) (hgd:o.guard=none) (s x:Operand) (ho:o.op=.call { callee:=.builtin .append,args:=#[s,x],argTypes:=#[t,t] })
  (base:Nat) (a0:Option Addr) (n c0:Nat) (xs:List Value) (hs:a.eval s=.slice a0 n c0) (hown:OwnL E size base W a0 c0 n xs)
  (m c:Nat) (hx:a.eval x=.slice (some ⟨W.heap.size,0,none⟩) m c) (hl:cs.size=m * size) (h1:∀ u ∈ cs.toList,u.oneCell'=true)
  (h63:n + m≤maxLen) (hbytes:(n + m) * bytes≤140737488355328) (hbase:base≤W.heap.size)
  (h:∀ a' c' w',OwnL E size base w' a' c' (n + m) (xs ++ cs.toList)→Below base W w' →
   (∀ {E' : TypeId} {size' base' : Nat} {a2:Option Addr} {c2 n2:Nat} {xs2:List Value},OwnL E' size' base' W a2 c2 n2 xs2→Apart a0 a2→OwnL E' size' base' w' a2 c2 n2 xs2∧Apart a' a2)→wpList P ops Q rest (a.put o.dst (.slice a' (n + m) c')) w') :
  wpList P ops Q (o :: rest) a (W.alloc (.cells cs E2)):=by
 obtain ⟨i,hi,hz0,hz1,hz2⟩:=el.info
 refine wpList_append_own_at _ hgd s x t ho base E i z size bytes el.slice hi hz0 hz1 hz2 el.cells el.pos (.slice a0 n c0) n xs hs (hown.alloc _) ⟨W.heap.size,0,none⟩ m c cs.toList hx (by simpa using hl) ?_ h1 h63 hbytes (by simp;omega) ?_
 ·intro j u hu
  rw [addr_add,World.cell?_alloc_at _ _ _ _ rfl,Nat.zero_add]
  simpa using hu
 ·intro v' w' h2 h3 h4 h5
  have hv:∃ a' c',v'=.slice a' (n + m) c':=by
   rcases h2.2 with ⟨rfl,hnm⟩ | ⟨g,cap,cur,rfl,_⟩
   ·exact ⟨none,0,by rw [hnm]⟩
   ·exact ⟨_,_,rfl⟩
  obtain ⟨a',c',rfl⟩:=hv
  refine h a' c' w' h2 (((Below.refl base W).alloc hbase _).trans (zAz (hown.alloc _) (by simp;omega) h3)) ?_
  intro E' size' base' a2 c2 n2 xs2 k2 hap
  refine ⟨(k2.alloc _).grown h3 (fun g hg hg2 => ?_),?_⟩
  ·cases a0 with
   | none => simp [Value.ownBlock] at hg
   | some x0 =>
    cases a2 with
    | none => simp [Value.ownBlock] at hg2
    | some x2 =>
     simp [Value.ownBlock] at hg hg2
     exact hap x0 x2 rfl rfl (by rw [hg,hg2])
  ·intro x1 x2 e1 e2
   subst e1 e2
   have hlt:=k2.old rfl
   rcases h5 with h5 | h5
   ·cases a0 with
    | none => simp [Value.ownBlock] at h5
    | some x0 =>
     simp [Value.ownBlock] at h5
     rw [h5]
     exact hap x0 x2 rfl rfl
   ·simp [Value.ownBlock] at h5
    omega
theorem Apart.symm {a1 a2:Option Addr} (h:Apart a1 a2):Apart a2 a1:=fun x y h1 h2 e => h y x h2 h1 e.symm
theorem Apart.none (a:Option Addr):Apart none a:=fun _ _ h => by cases h
theorem zFW {W:World} (el:Elem P t E z size bytes) (hgd:o.guard=none) (s x:Operand) (ho:o.op=.call { callee:=.builtin .append,args:=#[s,x],argTypes:=#[t,t] })
  (base:Nat) (a0:Option Addr) (n c0:Nat) (xs:List Value) (hs:a.eval s=.slice a0 n c0) (hown:OwnL E size base W a0 c0 n xs)
  (gg m c:Nat) (news:List Value) (hx:a.eval x=.slice (some ⟨gg,0,none⟩) m c) (hl:news.length=m * size) (hsrc:SrcAt W (some ⟨gg,0,none⟩) news) (h1:∀ u ∈ news,u.oneCell'=true)
  (h63:n + m≤maxLen) (hbytes:(n + m) * bytes≤140737488355328) (hbase:base≤W.heap.size)
  (h:∀ a' c' w',OwnL E size base w' a' c' (n + m) (xs ++ news)→Below base W w' →
   (∀ {E' : TypeId} {size' base' : Nat} {a2:Option Addr} {c2 n2:Nat} {xs2:List Value},OwnL E' size' base' W a2 c2 n2 xs2→Apart a0 a2→OwnL E' size' base' w' a2 c2 n2 xs2∧Apart a' a2)→wpList P ops Q rest (a.put o.dst (.slice a' (n + m) c')) w') :
  wpList P ops Q (o :: rest) a W:=by
 obtain ⟨i,hi,hz0,hz1,hz2⟩:=el.info
 refine wpList_append_own_at W hgd s x t ho base E i z size bytes el.slice hi hz0 hz1 hz2 el.cells el.pos (.slice a0 n c0) n xs hs hown ⟨gg,0,none⟩ m c news hx hl ?_ h1 h63 hbytes hbase ?_
 ·intro j u hu
  obtain ⟨b,off,e,hc⟩:=hsrc j u hu
  simp only [Option.some.injEq,Addr.mk.injEq,and_true] at e
  obtain ⟨rfl,rfl⟩:=e
  rw [addr_add]
  exact hc
 ·intro v' w' h2 h3 h4 h5
  have hv:∃ a' c',v'=.slice a' (n + m) c':=by
   rcases h2.2 with ⟨rfl,hnm⟩ | ⟨g,cap,cur,rfl,_⟩
   ·exact ⟨none,0,by rw [hnm]⟩
   ·exact ⟨_,_,rfl⟩
  obtain ⟨a',c',rfl⟩:=hv
  refine h a' c' w' h2 (zAz hown hbase h3) ?_
  intro E' size' base' a2 c2 n2 xs2 k2 hap
  refine ⟨k2.grown h3 (fun g hg hg2 => ?_),?_⟩
  ·cases a0 with
   | none => simp [Value.ownBlock] at hg
   | some x0 =>
    cases a2 with
    | none => simp [Value.ownBlock] at hg2
    | some x2 =>
     simp [Value.ownBlock] at hg hg2
     exact hap x0 x2 rfl rfl (by rw [hg,hg2])
  ·intro x1 x2 e1 e2
   subst e1 e2
   have hlt:=k2.old rfl
   rcases h5 with h5 | h5
   ·cases a0 with
    | none => simp [Value.ownBlock] at h5
    | some x0 =>
     simp [Value.ownBlock] at h5
     rw [h5]
     exact hap x0 x2 rfl rfl
   ·simp [Value.ownBlock] at h5
    omega
end
end Go.Proofs.YticjeianiahppaaGreatDoor
