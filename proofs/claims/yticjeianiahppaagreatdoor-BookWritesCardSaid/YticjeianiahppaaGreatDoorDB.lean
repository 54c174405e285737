/- The session book: contracts of the program and of the laws' helpers, joined (Nl). -/
import Derived.Test.YticjeianiahppaaGreatDoorBX
import Derived.Test.YticjeianiahppaaGreatDoorBS
import Derived.Lib.Join
set_option linter.unusedVariables false
set_option linter.unusedSimpArgs false
set_option linter.unnecessarySimpa false
namespace Go.Proofs.YticjeianiahppaaGreatDoor
def Small (n:Int):Prop:=-1000000 < n∧n < 1000000
theorem zMe (key:Int):∀ (l:List (Int × Int)) (f:Int),(∀ x ∈ l,0≤x.2∧x.2≤100)→-1≤f∧f≤100→-1≤l.foldl (Cph.zEb key) f∧l.foldl (Cph.zEb key) f≤100
 | [],f,_,h => h
 | x :: l,f,hl,h => by
  rw [List.foldl_cons]
  refine zMe key l _ (fun y hy => hl y (List.mem_cons_of_mem _ hy)) ?_
  have:=hl x List.mem_cons_self
  unfold Cph.zEb
  split <;> omega
theorem zCs (l:List ByteArray):∀ n ∈ zAq l,Small n:=by
 unfold zAq
 split
 ·intro n hn
  have V:=zDX l
  have F:=zCW l
  unfold Cph.zMp Cph.upTo at hn
  obtain ⟨i,hi,rfl⟩:=List.mem_map.1 hn
  have hi:=List.mem_range.1 hi
  have h1:=zMe ((zAV l).days.getD i 0) (zAV l).lost (-1) (fun x hx => by have:=V.codes.lost x hx;have:=F.days;omega) (by omega)
  have:=F.days
  unfold Cph.zP2 Small
  have h2:Cph.hadN (zAV l).lost ((zAV l).days.getD i 0)=(zAV l).lost.foldl (Cph.zEb ((zAV l).days.getD i 0)) (-1):=rfl
  split <;> omega
 ·intro n hn;cases hn
theorem zEY (l:List ByteArray):∀ n ∈ zDv l,Small n:=by
 unfold zDv Cps.zF3
 split
 ·split
  ·intro n hn
   have F:=(zCW l).sends
   unfold Cps.zEv at hn
   obtain ⟨k,hk,rfl⟩:=List.mem_map.1 hn
   have:=List.mem_range.1 (List.mem_filter.1 hk).1
   unfold Small;omega
  ·intro n hn;cases hn
 ·intro n hn;cases hn
theorem zD3 (l:List ByteArray):∀ x ∈ zEE l,Small x.1∧Small x.2:=by
 unfold zEE Pay.zLG
 split
 ·split
  ·rename_i h0
   have G:=Pay.zP1 h0
   intro x hx
   unfold Pay.bdL at hx
   obtain ⟨s,_,rfl⟩:=List.mem_map.1 hx
   have F:=(zCW l).ds
   have hb:∀ X,Small (Pay.endB (zAV l).acc.rate (zAV l).acc.keeps (zAV l).acc.ds X (s:Int)):=fun X => by
    have h1:=Pay.zJO (s:=(s:Int)) G (Pay.zLj G X s (zAV l).acc.ds.length) (by rw [Pay.zG1];exact Nat.le_refl _) (zAV l).acc.ds.length (by rw [Pay.zG1];exact Nat.le_refl _)
    have h2:(zAV l).acc.ds.length≤6:=F
    unfold Pay.endB Small
    omega
   exact ⟨hb _,hb _⟩
  ·intro x hx;cases hx
 ·intro x hx;cases hx
theorem zIJ {p:Cps.Post} (hs:∀ x ∈ p.sends,x≤30) (hp:p.pat≤30) (G:Nat→Int) (k:Nat):0≤Cps.finN p G k∧Cps.finN p G k≤60:=by
 induction k with
 | zero => exact ⟨Int.le_refl _,by show (0:Int)≤60;decide⟩
 | succ k ih =>
  rw [Cps.zMh]
  have h:p.sends.getD k 0≤30:=by
   rw [List.getD_eq_getElem?_getD]
   cases e:p.sends[k]? with
   | none => decide
   | some x => exact hs x (List.mem_of_getElem? e)
  omega
theorem zCl (l:List ByteArray):∀ x ∈ zC0 l,Small x.1∧Small x.2:=by
 unfold zC0 Cps.zDw
 split
 ·split
  ·intro x hx
   have V:=zDX l
   have hs:∀ y ∈ (zAV l).post.sends,y≤30:=fun y hy => by
    have:=(List.all_eq_true.1 V.post.sends) y hy
    simp only [Cps.inR,Bool.and_eq_true,decide_eq_true_eq] at this
    exact this.2
   have hp:(zAV l).post.pat≤30:=by
    have:=V.post.pat
    simp only [Cps.inR,Bool.and_eq_true,decide_eq_true_eq] at this
    exact this.2
   unfold Cps.zEn at hx
   obtain ⟨k,_,rfl⟩:=List.mem_map.1 hx
   have h1:=zIJ hs hp (Cps.zFx (zAV l).post) (k + 1)
   have h2:=zIJ hs hp (Cps.zDk (zAV l).post) (k + 1)
   unfold Cps.zF6 Small
   constructor <;> constructor <;> (simp only [];omega)
  ·intro x hx;cases hx
 ·intro x hx;cases hx
def numW (n:Int):ByteArray:=⟨(Lib.itoa n).toArray⟩
def zJe:ByteArray:=⟨#[110,101,118,101,114]⟩
def dayW (n:Int):ByteArray:=if 0≤n then numW n else zJe
def zCI (x:Int × Int):ByteArray:=numW x.1 ++ ⟨#[46,46]⟩ ++ numW x.2
def headW:List ByteArray:=[⟨#[101,120,112,111,115,101,100]⟩,⟨#[115,112,97,110,115]⟩,⟨#[115,117,114,101]⟩,⟨#[111,119,101,100]⟩]
theorem zHD {n:Int} (h:Small n):(Lib.itoa n).length≤8:=by
 unfold Small at h
 unfold Lib.itoa
 split
 ·have:=zEQ n.natAbs 6 (by omega)
  simp;omega
 ·have:=zEQ n.toNat 6 (by omega)
  omega
theorem zEF {n:Int} (h:Small n):(numW n).size≤20:=by
 have:=zHD h
 show (Lib.itoa n).toArray.size≤20
 simp;omega
theorem zNB {n:Int} (h:Small n):(dayW n).size≤20:=by
 unfold dayW
 split
 ·exact zEF h
 ·decide
theorem zF5 {x:Int × Int} (h1:Small x.1) (h2:Small x.2):(zCI x).size≤20:=by
 have a:=zHD h1
 have b:=zHD h2
 have e:(zCI x).size=(Lib.itoa x.1).length + 2 + (Lib.itoa x.2).length:=by
  show (zCI x).data.size=_
  simp [zCI,numW]
  omega
 omega
theorem zKh {ws:List (List UInt8)} {K:Nat} (h:∀ s ∈ ws,s.length≤K):(Lib.join ws [32]).length≤ws.length * (K + 1):=by
 induction ws with
 | nil => simp [Lib.join]
 | cons s t ih =>
  have h1:=h s List.mem_cons_self
  have h2:=ih fun x hx => h x (List.mem_cons_of_mem _ hx)
  cases t with
  | nil => simp [Lib.join,List.intercalate];omega
  | cons y r =>
   have e:Lib.join (s :: y :: r) [32]=s ++ [32] ++ Lib.join (y :: r) [32]:=by simp [Lib.join,List.intercalate]
   have e5:(s :: y :: r).length * (K + 1)=(y :: r).length * (K + 1) + (K + 1):=Nat.succ_mul _ _
   rw [e,e5,List.length_append,List.length_append,List.length_singleton]
   omega
theorem zH6 (l:List ByteArray):(zAq l).length≤8∧(zC0 l).length≤4∧(zDv l).length≤4∧(zEE l).length≤7:=by
 have F:=zCW l
 refine ⟨?_,?_,?_,?_⟩
 ·unfold zAq
  split
  ·have:=F.days;unfold Cph.zMp;rw [Cph.zJW];exact this
  ·simp
 ·unfold zC0 Cps.zDw
  split
  ·split
   ·have:=F.sends;rw [Cps.zGV];exact this
   ·simp
  ·simp
 ·unfold zDv Cps.zF3
  split
  ·split
   ·have:=F.sends;have:=Cps.zL4 (zAV l).post (zAV l).post.sends.length;omega
   ·simp
  ·simp
 ·unfold zEE Pay.zLG
  split
  ·split
   ·unfold Pay.bdL;rw [List.length_map,List.length_range];exact Nat.le_refl _
   ·simp
  ·simp
end Go.Proofs.YticjeianiahppaaGreatDoor
