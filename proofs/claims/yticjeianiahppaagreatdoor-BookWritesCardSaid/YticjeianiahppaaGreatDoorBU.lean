/- The session book: contracts of the program and of the laws' helpers, joined (Tg). -/
import Derived.Test.YticjeianiahppaaGreatDoorBD
set_option linter.unusedVariables false
set_option linter.unusedSimpArgs false
set_option linter.unnecessarySimpa false
namespace Go.Proofs.YticjeianiahppaaGreatDoor
open Cps
theorem zNI (k m:Nat):(1 <<< k).testBit m=decide (k=m):=by
 rw [Nat.one_shiftLeft,Nat.testBit_two_pow]
theorem zIG {α:Type} (f:α→Nat):∀ (l:List α) (a m:Nat),(l.foldl (fun acc x => acc ||| 1 <<< f x) a).testBit m=(a.testBit m || l.any fun x => decide (f x=m))
 | [],a,m => by simp
 | x :: l,a,m => by
  rw [List.foldl_cons,zIG f l,Nat.testBit_or,zNI,List.any_cons,Bool.or_assoc]
def zIp (l:Leg) (M:Nat):Nat:=((List.range 101).filter M.testBit).foldl (fun acc (h:Nat) => (List.range (l.hi - l.lo + 1).toNat).foldl (fun acc (n:Nat) => acc ||| 1 <<< (awk l ((h:Int) + l.lo + (n:Int))).toNat) acc) 0
theorem zGb {α β:Type} (f:α→β→Nat) (r:α→List β):∀ (l:List α) (a m:Nat),(l.foldl (fun acc h => (r h).foldl (fun acc n => acc ||| 1 <<< f h n) acc) a).testBit m=(a.testBit m || l.any fun h => (r h).any fun n => decide (f h n=m))
 | [],a,m => by simp
 | x :: l,a,m => by
  rw [List.foldl_cons,zGb f r l,zIG,List.any_cons,Bool.or_assoc]
theorem zOC {l:Leg} {S:Hrs} {M:Nat} (hl:0≤l.lo) (h:∀ n,M.testBit n=S n) (m:Nat):(zIp l M).testBit m=zEN l S m:=by
 unfold zIp zEN
 rw [zGb (fun (h:Nat) (n:Nat) => (awk l ((h:Int) + l.lo + n)).toNat) (fun _ => List.range (l.hi - l.lo + 1).toNat),Nat.zero_testBit,Bool.false_or]
 rw [Bool.eq_iff_iff]
 simp only [List.any_eq_true,List.mem_filter,List.mem_range,Bool.and_eq_true,decide_eq_true_eq,h]
 constructor
 ·rintro ⟨x,⟨h1,h2⟩,n,h3,h4⟩
  have:=zGk l ((x:Int) + l.lo + n)
  exact ⟨x,h1,h2,n,h3,by omega⟩
 ·rintro ⟨x,h1,h2,n,h3,h4⟩
  have:=zGk l ((x:Int) + l.lo + n)
  exact ⟨x,⟨h1,h2⟩,n,h3,by omega⟩
def zCL (ls:List Leg) (s:Nat):Nat:=ls.foldl (fun M l => zIp l M) (1 <<< s)
theorem zGY (ls:List Leg) (s:Nat) (hl:∀ l ∈ ls,0≤l.lo) (m:Nat):(zCL ls s).testBit m=zE1 ls s m:=by
 unfold zCL zE1
 have h0:∀ n,(1 <<< s).testBit n=zEy s n:=fun n => by
  rw [zNI];unfold zEy
  rw [Bool.eq_iff_iff]
  simp only [decide_eq_true_eq];omega
 revert h0
 generalize 1 <<< s=M
 generalize zEy (s:Int)=S
 induction ls generalizing M S with
 | nil => intro h0;exact h0 m
 | cons l ls ih =>
  intro h0
  exact ih (fun x hx => hl x (List.mem_cons_of_mem _ hx)) _ _ (fun n => zOC (hl l List.mem_cons_self) h0 n)
def zM2 (M:Nat):Nat:=(List.range 101).foldl (fun a h => if M.testBit h then h else a) 0
theorem zIF (f:Nat→Bool):∀ (n:Nat),(List.range n).foldl (fun a h => if f h then h else a) 0=(((List.range n).filter f).getLast?).getD 0
 | 0 => rfl
 | n + 1 => by
  rw [List.range_succ,List.foldl_append,zIF f n,List.filter_append]
  simp only [List.foldl_cons,List.foldl_nil]
  by_cases h:f n=true
  ·simp [h]
  ·simp [h]
theorem zCg {f:Hrs} {M:Nat} (h:∀ n,M.testBit n=f n):lastH f=(zM2 M:Int):=by
 unfold lastH zBK zM2
 rw [show (fun (a h:Nat) => if M.testBit h=true then h else a)=fun (a h:Nat) => if f h=true then h else a from by funext a k;rw [h]]
 rw [zIF f 101]
 generalize (List.range 101).filter f=l
 rw [List.getLast?_eq_getElem?,List.getD_eq_getElem?_getD,List.getElem?_map,List.length_map]
 cases l[l.length - 1]? <;> rfl
def zPR (p:Post) (i:Nat):List (Bool × Nat × Nat):=p.routes.map fun r => let M:=zCL r.legs (p.sends.getD i 0).toNat;(r.lossy,M,zM2 M)
def canM (L:List (Bool × Nat × Nat)) (h:Nat):Bool:=L.all (fun x => x.1 || decide (h≤x.2.2)) && (decide (h=101) || L.any fun x => decide (h < 101) && x.2.1.testBit h)
structure LoOk (p:Post):Prop where
 legs:∀ r ∈ p.routes,∀ l ∈ r.legs,0≤l.lo
 sends:∀ x ∈ p.sends,0≤x
theorem zJz {p:Post} (h:LoOk p) {i:Nat} (hi:i < p.sends.length) (k:Nat):canB p i k=canM (zPR p i) k:=by
 have hs:0≤p.sends.getD i 0:=by
  rw [List.getD_eq_getElem?_getD,List.getElem?_eq_getElem hi]
  exact h.sends _ (List.getElem_mem hi)
 have hm:∀ j,(hj:j < p.routes.length)→∀ n,(zCL p.routes[j].legs (p.sends.getD i 0).toNat).testBit n=hrF p i j n:=fun j hj n => by
  rw [zGY _ _ (h.legs _ (List.getElem_mem hj))]
  unfold hrF
  rw [List.getElem?_eq_getElem hj]
  simp only [Option.map_some,Option.getD_some]
  rw [show (((p.sends.getD i 0).toNat:Nat):Int)=p.sends.getD i 0 by omega]
 rw [Bool.eq_iff_iff,zJK]
 unfold canM zPR
 simp only [Bool.and_eq_true,Bool.or_eq_true,List.all_eq_true,List.any_eq_true,decide_eq_true_eq,List.mem_map]
 constructor
 ·rintro ⟨h1,h2⟩
  refine ⟨?_,?_⟩
  ·rintro _ ⟨r,hr,rfl⟩
   obtain ⟨j,hj,rfl⟩:=List.mem_iff_getElem.1 hr
   have:=h1 j hj
   unfold badK zCy at this
   rw [zCg (hm j hj),List.getElem?_eq_getElem hj] at this
   simp only [Option.map_some,Option.getD_some,Bool.and_eq_false_imp,Bool.not_eq_true',decide_eq_false_iff_not] at this
   cases hb:p.routes[j].lossy
   ·have:=this hb
    exact .inr (by show k≤zM2 (zCL p.routes[j].legs (p.sends.getD i 0).toNat);omega)
   ·exact .inl rfl
  ·rcases h2 with h2 | ⟨j,hj,h3,h4⟩
   ·exact .inl h2
   ·exact .inr ⟨_,⟨_,List.getElem_mem hj,rfl⟩,h3,by rw [hm j hj];exact h4⟩
 ·rintro ⟨h1,h2⟩
  refine ⟨fun j hj => ?_,?_⟩
  ·have:=h1 _ ⟨_,List.getElem_mem hj,rfl⟩
   unfold badK zCy
   rw [zCg (hm j hj),List.getElem?_eq_getElem hj]
   simp only [Option.map_some,Option.getD_some]
   rcases this with e | e
   ·rw [show p.routes[j].lossy=true from e];rfl
   ·rw [Bool.and_eq_false_iff]
    refine .inr ?_
    rw [decide_eq_false_iff_not]
    have e2:k≤zM2 (zCL p.routes[j].legs (p.sends.getD i 0).toNat):=e
    omega
  ·rcases h2 with h2 | ⟨_,⟨r,hr,rfl⟩,h3,h4⟩
   ·exact .inl h2
   ·obtain ⟨j,hj,rfl⟩:=List.mem_iff_getElem.1 hr
    exact .inr ⟨j,hj,h3,by rw [← hm j hj];exact h4⟩
def zNo (p:Post) (l:List Ent):List (List (Bool × Nat × Nat))→Nat→Int→Bool
 | [],_,_ => true
 | L :: Ls,i,f => (List.range 102).any fun h => canM L h && zJC l (zC7 p i f h) i && zNo p l Ls (i + 1) (zC7 p i f h).at_
def zJf (p:Post):Nat→Nat→List (List (Bool × Nat × Nat))
 | 0,_ => []
 | r + 1,i => zPR p i :: zJf p r (i + 1)
theorem zFi {p:Post} (h:LoOk p) (l:List Ent):∀ (r i:Nat) (f:Int),i + r≤p.sends.length→(zB5 p l r i f).isSome=zNo p l (zJf p r i) i f
 | 0,_,_,_ => rfl
 | r + 1,i,f,hi => by
  rw [Bool.eq_iff_iff,zMH]
  unfold zJf zNo
  simp only [List.any_eq_true,List.mem_range,Bool.and_eq_true]
  constructor
  ·rintro ⟨k,h1,h2,h3,h4⟩
   exact ⟨k,h1,⟨by rw [← zJz h (by omega)];exact h2,h3⟩,by rw [← zFi h l r (i + 1) _ (by omega)];exact h4⟩
  ·rintro ⟨k,h1,⟨h2,h3⟩,h4⟩
   exact ⟨k,h1,by rw [zJz h (by omega)];exact h2,h3,by rw [zFi h l r (i + 1) _ (by omega)];exact h4⟩
theorem zQ3 {p:Post} (h:zA4 p=0):LoOk p:=by
 unfold zA4 at h
 split at h
 ·cases h
 split at h
 ·cases h
 rename_i h2
 simp only [not_or,Bool.not_eq_false] at h2
 refine ⟨fun r hr l hl => ?_,fun x hx => ?_⟩
 ·have:=(List.all_eq_true.1 h2.2.2.2.2.2) r hr
  simp only [zBv,Bool.and_eq_true] at this
  have:=(List.all_eq_true.1 this.2) l hl
  simp only [zDC,zCk,Bool.and_eq_true,decide_eq_true_eq] at this
  omega
 ·have:=(List.all_eq_true.1 h2.2.2.2.1) x hx
  simp only [inR,Bool.and_eq_true,decide_eq_true_eq] at this
  omega
def zP4 (p:Post) (l:List Ent):Int:=if zA7 p l≠0 then zA7 p l else if zNo p l (zJf p p.sends.length 0) 0 0 then 0 else 9
theorem zMl (p:Post) (l:List Ent):zCa p l=zP4 p l:=by
 unfold zCa zP4 zOR zDI
 split
 ·rfl
 ·rename_i h
  have h0:zA7 p l=0:=by simpa using h
  rw [zFi (zQ3 (zEh h0).1) l _ _ _ (by omega)]
end Go.Proofs.YticjeianiahppaaGreatDoor
