/- The session book: contracts of the program and of the laws' helpers, joined (Nl). -/
import Derived.Test.YticjeianiahppaaGreatDoorBX
import Derived.Test.YticjeianiahppaaGreatDoorBS
import Derived.Lib.Join
set_option linter.unusedVariables false
set_option linter.unusedSimpArgs false
set_option linter.unnecessarySimpa false
namespace Go.Proofs.YticjeianiahppaaGreatDoor
def Small (n:Int):Prop:=-1000000 < n∧n < 1000000
theorem had_mem (key:Int):∀ (l:List (Int × Int)) (f:Int),(∀ x ∈ l,0≤x.2∧x.2≤100)→-1≤f∧f≤100→-1≤l.foldl (Cph.hadStep key) f∧l.foldl (Cph.hadStep key) f≤100
 | [],f,_,h => h
 | x :: l,f,hl,h => by
  rw [List.foldl_cons]
  refine had_mem key l _ (fun y hy => hl y (List.mem_cons_of_mem _ hy)) ?_
  have:=hl x List.mem_cons_self
  unfold Cph.hadStep
  split <;> omega
theorem exposed_small (l:List ByteArray):∀ n ∈ exposedL l,Small n:=by
 unfold exposedL
 split
 ·intro n hn
  have V:=after_val l
  have F:=after_few l
  unfold Cph.expRes Cph.upTo at hn
  obtain ⟨i,hi,rfl⟩:=List.mem_map.1 hn
  have hi:=List.mem_range.1 hi
  have h1:=had_mem ((afterL l).days.getD i 0) (afterL l).lost (-1) (fun x hx => by have:=V.codes.lost x hx;have:=F.days;omega) (by omega)
  have:=F.days
  unfold Cph.fromN Small
  have h2:Cph.hadN (afterL l).lost ((afterL l).days.getD i 0)=(afterL l).lost.foldl (Cph.hadStep ((afterL l).days.getD i 0)) (-1):=rfl
  split <;> omega
 ·intro n hn;cases hn
theorem sure_small (l:List ByteArray):∀ n ∈ sureL l,Small n:=by
 unfold sureL Cps.sureOut
 split
 ·split
  ·intro n hn
   have F:=(after_few l).sends
   unfold Cps.sureF at hn
   obtain ⟨k,hk,rfl⟩:=List.mem_map.1 hn
   have:=List.mem_range.1 (List.mem_filter.1 hk).1
   unfold Small;omega
  ·intro n hn;cases hn
 ·intro n hn;cases hn
theorem owed_small (l:List ByteArray):∀ x ∈ owedL l,Small x.1∧Small x.2:=by
 unfold owedL Pay.bdOut
 split
 ·split
  ·rename_i h0
   have G:=Pay.good_of h0
   intro x hx
   unfold Pay.bdL at hx
   obtain ⟨s,_,rfl⟩:=List.mem_map.1 hx
   have F:=(after_few l).ds
   have hb:∀ X,Small (Pay.endB (afterL l).acc.rate (afterL l).acc.keeps (afterL l).acc.ds X (s:Int)):=fun X => by
    have h1:=Pay.balN_bd (s:=(s:Int)) G (Pay.reachL_bd G X s (afterL l).acc.ds.length) (by rw [Pay.reachL_len];exact Nat.le_refl _) (afterL l).acc.ds.length (by rw [Pay.reachL_len];exact Nat.le_refl _)
    have h2:(afterL l).acc.ds.length≤6:=F
    unfold Pay.endB Small
    omega
   exact ⟨hb _,hb _⟩
  ·intro x hx;cases hx
 ·intro x hx;cases hx
theorem fin_small {p:Cps.Post} (hs:∀ x ∈ p.sends,x≤30) (hp:p.pat≤30) (G:Nat→Int) (k:Nat):0≤Cps.finN p G k∧Cps.finN p G k≤60:=by
 induction k with
 | zero => exact ⟨Int.le_refl _,by show (0:Int)≤60;decide⟩
 | succ k ih =>
  rw [Cps.finN_succ]
  have h:p.sends.getD k 0≤30:=by
   rw [List.getD_eq_getElem?_getD]
   cases e:p.sends[k]? with
   | none => decide
   | some x => exact hs x (List.mem_of_getElem? e)
  omega
theorem spans_small (l:List ByteArray):∀ x ∈ spansL l,Small x.1∧Small x.2:=by
 unfold spansL Cps.spansOut
 split
 ·split
  ·intro x hx
   have V:=after_val l
   have hs:∀ y ∈ (afterL l).post.sends,y≤30:=fun y hy => by
    have:=(List.all_eq_true.1 V.post.sends) y hy
    simp only [Cps.inR,Bool.and_eq_true,decide_eq_true_eq] at this
    exact this.2
   have hp:(afterL l).post.pat≤30:=by
    have:=V.post.pat
    simp only [Cps.inR,Bool.and_eq_true,decide_eq_true_eq] at this
    exact this.2
   unfold Cps.spansF at hx
   obtain ⟨k,_,rfl⟩:=List.mem_map.1 hx
   have h1:=fin_small hs hp (Cps.earliestF (afterL l).post) (k + 1)
   have h2:=fin_small hs hp (Cps.latestF (afterL l).post) (k + 1)
   unfold Cps.spanAt Small
   constructor <;> constructor <;> (simp only [];omega)
  ·intro x hx;cases hx
 ·intro x hx;cases hx
def numW (n:Int):ByteArray:=⟨(Lib.itoa n).toArray⟩
def neverW:ByteArray:=⟨#[110,101,118,101,114]⟩
def dayW (n:Int):ByteArray:=if 0≤n then numW n else neverW
def speltW (x:Int × Int):ByteArray:=numW x.1 ++ ⟨#[46,46]⟩ ++ numW x.2
def headW:List ByteArray:=[⟨#[101,120,112,111,115,101,100]⟩,⟨#[115,112,97,110,115]⟩,⟨#[115,117,114,101]⟩,⟨#[111,119,101,100]⟩]
theorem itoa_len {n:Int} (h:Small n):(Lib.itoa n).length≤8:=by
 unfold Small at h
 unfold Lib.itoa
 split
 ·have:=digits_le n.natAbs 6 (by omega)
  simp;omega
 ·have:=digits_le n.toNat 6 (by omega)
  omega
theorem numW_size {n:Int} (h:Small n):(numW n).size≤20:=by
 have:=itoa_len h
 show (Lib.itoa n).toArray.size≤20
 simp;omega
theorem dayW_size {n:Int} (h:Small n):(dayW n).size≤20:=by
 unfold dayW
 split
 ·exact numW_size h
 ·decide
theorem speltW_size {x:Int × Int} (h1:Small x.1) (h2:Small x.2):(speltW x).size≤20:=by
 have a:=itoa_len h1
 have b:=itoa_len h2
 have e:(speltW x).size=(Lib.itoa x.1).length + 2 + (Lib.itoa x.2).length:=by
  show (speltW x).data.size=_
  simp [speltW,numW]
  omega
 omega
theorem joinW_len' {ws:List (List UInt8)} {K:Nat} (h:∀ s ∈ ws,s.length≤K):(Lib.join ws [32]).length≤ws.length * (K + 1):=by
 induction ws with
 | nil => simp [Lib.join]
 | cons s t ih =>
  have h1:=h s List.mem_cons_self
  have h2:=ih fun x hx => h x (List.mem_cons_of_mem _ hx)
  cases t with
  | nil => simp [Lib.join,List.intercalate];omega
  | cons y r =>
   have e:Lib.join (s :: y :: r) [32]=s ++ [32] ++ Lib.join (y :: r) [32]:=by simp [Lib.join,List.intercalate]
   have e5:(s :: y :: r).length * (K + 1)=(y :: r).length * (K + 1) + (K + 1):=Nat.succ_mul _ _
   rw [e,e5,List.length_append,List.length_append,List.length_singleton]
   omega
theorem words_len (l:List ByteArray):(exposedL l).length≤8∧(spansL l).length≤4∧(sureL l).length≤4∧(owedL l).length≤7:=by
 have F:=after_few l
 refine ⟨?_,?_,?_,?_⟩
 ·unfold exposedL
  split
  ·have:=F.days;unfold Cph.expRes;rw [Cph.upTo_len];exact this
  ·simp
 ·unfold spansL Cps.spansOut
  split
  ·split
   ·have:=F.sends;rw [Cps.spansF_len];exact this
   ·simp
  ·simp
 ·unfold sureL Cps.sureOut
  split
  ·split
   ·have:=F.sends;have:=Cps.sureF_len (afterL l).post (afterL l).post.sends.length;omega
   ·simp
  ·simp
 ·unfold owedL Pay.bdOut
  split
  ·split
   ·unfold Pay.bdL;rw [List.length_map,List.length_range];exact Nat.le_refl _
   ·simp
  ·simp
end Go.Proofs.YticjeianiahppaaGreatDoor
