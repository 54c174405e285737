/- The session book: contracts of the program and of the laws' helpers, joined (Ta). -/
import Derived.Lib.AtoiTie
import Derived.Lib.ItoaNum
import Derived.Lib.SplitLaws
import Derived.Lib.Strings
set_option linter.unusedVariables false
set_option linter.unusedSimpArgs false
set_option linter.unnecessarySimpa false
namespace Go.Proofs.YticjeianiahppaaGreatDoor
open Go
theorem zCu {d:Nat} (h:d < 10):Lib.digitVal (UInt8.ofNat (48 + d))=some d:=by
 have:(UInt8.ofNat (48 + d)).toNat=48 + d:=by
  rw [UInt8.toNat_ofNat'];omega
 unfold Lib.digitVal
 rw [this,if_pos (by omega)]
 congr 1;omega
theorem zIk {b:UInt8} {d:Nat} (h:Lib.digitVal b=some d):UInt8.ofNat (48 + d)=b∧d < 10:=by
 obtain ⟨h1,h2,h3⟩:=Lib.digitVal_eq h
 refine ⟨?_,by omega⟩
 apply UInt8.toNat_inj.1
 rw [UInt8.toNat_ofNat'];omega
theorem zCb:∀ (l r:List UInt8) (acc:Nat),Lib.decFrom acc (l ++ r)=(Lib.decFrom acc l).bind fun m => Lib.decFrom m r
 | [],r,acc => rfl
 | b :: l,r,acc => by
  rw [List.cons_append,Lib.decFrom,Lib.decFrom]
  cases Lib.digitVal b with
  | none => rfl
  | some d => exact zCb l r _
theorem zDf (m:Nat):Lib.decFrom 0 (Lib.decDigits m)=some m:=by
 induction m using Nat.strongRecOn with
 | ind m ih =>
  rw [Lib.decDigits]
  split
  ·rename_i h
   rw [Lib.decFrom,zCu h]
   simp [Lib.decFrom]
  ·rename_i h
   rw [zCb,ih (m / 10) (by omega),Option.bind_some,Lib.decFrom,zCu (Nat.mod_lt _ (by omega))]
   simp only [Lib.decFrom,Option.some.injEq]
   omega
theorem zMz (m:Nat):Lib.decDigits m≠[]:=by
 rw [Lib.decDigits]
 split <;> simp
theorem zDV (m:Nat):∃ d r,d < 10∧Lib.decDigits m=UInt8.ofNat (48 + d) :: r:=by
 induction m using Nat.strongRecOn with
 | ind m ih =>
  rw [Lib.decDigits]
  split
  ·rename_i h
   exact ⟨m,[],h,rfl⟩
  ·rename_i h
   obtain ⟨d,r,h1,h2⟩:=ih (m / 10) (by omega)
   exact ⟨d,_,h1,by rw [h2];rfl⟩
theorem zCt (m:Nat):(Lib.decDigits m).head?=some 48→m=0:=by
 induction m using Nat.strongRecOn with
 | ind m ih =>
  rw [Lib.decDigits]
  split
  ·rename_i h
   intro e
   simp only [List.head?_cons,Option.some.injEq] at e
   have:(UInt8.ofNat (48 + m)).toNat=(48:UInt8).toNat:=by rw [e]
   rw [UInt8.toNat_ofNat'] at this
   have e2:(48:UInt8).toNat=48:=rfl
   omega
  ·rename_i h
   intro e
   obtain ⟨d,r,_,e2⟩:=zDV (m / 10)
   have:=ih (m / 10) (by omega) (by rw [e2] at e ⊢; simpa using e)
   omega
theorem zCU:Lib.decDigits 0=[48]:=by rw [Lib.decDigits];rfl
theorem zIR:∀ (n:Nat) (l:List UInt8) (m:Nat),l.length=n→l≠[]→Lib.decFrom 0 l=some m→(l.head?=some 48→l.length=1)→Lib.decDigits m=l:=by
 intro n
 induction n using Nat.strongRecOn with
 | ind n ih =>
  intro l m hn hne hd h0
  rcases List.eq_nil_or_concat l with e | ⟨e,b,rfl⟩
  ·exact absurd e hne
  rw [List.concat_eq_append] at *
  rw [zCb] at hd
  cases hm:Lib.decFrom 0 e with
  | none => rw [hm] at hd;simp at hd
  | some u =>
   rw [hm,Option.bind_some,Lib.decFrom] at hd
   cases hb:Lib.digitVal b with
   | none => rw [hb] at hd;simp at hd
   | some d =>
    rw [hb] at hd
    simp only [Lib.decFrom,Option.some.injEq] at hd
    obtain ⟨hb1,hb2⟩:=zIk hb
    cases e with
    | nil =>
     simp only [Lib.decFrom,Option.some.injEq] at hm
     subst hm
     rw [Lib.decDigits,dif_pos (by omega)]
     rw [show 48 + m=48 + d by omega,hb1];rfl
    | cons x t =>
     have hh:¬ (x=48):=fun ex => by
      have:=h0 (by simp [ex])
      simp at this
     have he:=ih (x :: t).length (by rw [← hn];simp) (x :: t) u rfl (by simp) hm (fun e => by simp at e;exact absurd e hh)
     have hu:u≠0:=fun e0 => by
      rw [e0,zCU] at he
      simp at he
      exact hh he.1.symm
     rw [Lib.decDigits,dif_neg (by omega),show m / 10=u by omega,he,show m % 10=d by omega,hb1]
def numD (s:List UInt8):Option Int :=
 match s with
 | [] => none
 | c :: r =>
  if c=45 then (if 1≤r.length∧r.length≤9∧r.head?≠some 48 then (Lib.decFrom 0 r).map fun (m:Nat) => -(m:Int) else none)
  else if r.length≤8∧(c=48→r=[]) then (Lib.decFrom 0 (c :: r)).map fun (m:Nat) => (m:Int) else none
theorem zKy {m:Nat} {c:UInt8} {r:List UInt8} (h:Lib.digitVal c=none):Lib.decDigits m≠c :: r:=by
 intro e
 obtain ⟨d,t,h1,h2⟩:=zDV m
 rw [h2] at e
 have:=(List.cons.inj e).1
 rw [← this,zCu h1] at h
 cases h
theorem zEG (c:UInt8) (r:List UInt8):numD (c :: r)=if c=45 then (if 1≤r.length∧r.length≤9∧r.head?≠some 48 then (Lib.decFrom 0 r).map fun (m:Nat) => -(m:Int) else none)
  else if r.length≤8∧(c=48→r=[]) then (Lib.decFrom 0 (c :: r)).map fun (m:Nat) => (m:Int) else none:=rfl
theorem zHC (m:Nat):Lib.itoa (m:Int)=Lib.decDigits m:=by
 unfold Lib.itoa
 rw [if_neg (by omega)];rfl
theorem itoa_neg {m:Nat} (h:m≠0):Lib.itoa (-(m:Int))=45 :: Lib.decDigits m:=by
 unfold Lib.itoa
 rw [if_pos (by omega)]
 congr 2;omega
theorem zKJ (r:List UInt8):Lib.trimPrefix (45 :: r) [45]=r:=by simp [Lib.trimPrefix,Lib.hasPrefix]
theorem zKI {c:UInt8} (r:List UInt8) (h:c≠45):Lib.trimPrefix (c :: r) [45]=c :: r:=by
 unfold Lib.trimPrefix
 rw [if_neg]
 simp [Lib.hasPrefix,Ne.symm h]
theorem zK4 (s:List UInt8):(match Lib.atoiAll s with
 | .ok v => if Lib.itoa v=s∧(Lib.trimPrefix s [45]).length≤9 then some v else none
 | _ => none)=numD s:=by
 cases s with
 | nil => rfl
 | cons c r =>
  by_cases h45:c=45
  ·subst h45
   rw [zKJ]
   rw [zEG,if_pos rfl]
   by_cases hl:r.length≤9
   ·rw [Lib.atoiAll_minus,Lib.signed_short (by omega)]
    cases hr:r with
    | nil => simp [Lib.decNat,Lib.NumEnd.ofOption]
    | cons x t =>
     rw [← hr]
     have hne:r≠[]:=by rw [hr];simp
     have he:Lib.decNat r=Lib.decFrom 0 r:=by unfold Lib.decNat;rw [hr];rfl
     rw [he]
     cases hm:Lib.decFrom 0 r with
     | none => simp [Lib.NumEnd.ofOption]
     | some m =>
      simp only [Option.map_some,Lib.NumEnd.ofOption]
      have hlen:1≤r.length:=by rw [hr];simp
      by_cases h0:r.head?=some 48
      ·rw [if_neg (fun h => ?_),if_neg (fun h => h.2.2 h0)]
       have h:=h.1
       by_cases hz:m=0
       ·subst hz
        rw [show (-((0:Nat):Int))=((0:Nat):Int) from rfl,zHC,zCU] at h
        simp at h
       ·rw [itoa_neg hz] at h
        have:=(List.cons.inj h).2
        rw [← this] at h0
        exact hz (zCt m h0)
      ·have hd:=zIR _ r m rfl hne hm (fun e => absurd e h0)
       have hz:m≠0:=fun e => by
        rw [e,zCU] at hd
        rw [← hd] at h0
        exact h0 rfl
       rw [if_pos ⟨by rw [itoa_neg hz,hd],hl⟩,if_pos ⟨hlen,hl,h0⟩]
   ·rw [if_neg (fun h => hl h.2.1)]
    cases Lib.atoiAll (45 :: r) with
    | ok v => simp [hl]
    | _ => rfl
  ·rw [zKI r h45]
   rw [zEG,if_neg h45]
   have h45' : c.toNat≠45:=fun e => h45 (UInt8.toNat_inj.1 e)
   by_cases h43:c=43
   ·subst h43
    have hd:Lib.decFrom 0 (43 :: r)=none:=rfl
    rw [hd,Option.map_none,ite_self,Lib.atoiAll_plus]
    cases hs:Lib.signless (Lib.parseMag r) with
    | ok v =>
     show (if _ then _ else _)=none
     rw [if_neg]
     intro h
     have h:=h.1
     unfold Lib.itoa at h
     split at h
     ·exact absurd (List.cons.inj h).1 (by decide)
     ·exact zKy rfl h
    | _ => rfl
   ·have h43' : c.toNat≠43:=fun e => h43 (UInt8.toNat_inj.1 e)
    rw [Lib.atoiAll_plain c r h43' h45']
    by_cases hl:r.length≤8
    ·rw [Lib.signless_short (by simp;omega)]
     have he:Lib.decNat (c :: r)=Lib.decFrom 0 (c :: r):=rfl
     rw [he]
     cases hm:Lib.decFrom 0 (c :: r) with
     | none => simp [Lib.NumEnd.ofOption]
     | some m =>
      simp only [Option.map_some,Lib.NumEnd.ofOption]
      by_cases h0:c=48→r=[]
      ·have hd:=zIR _ (c :: r) m rfl (by simp) hm (fun e => by simp at e;rw [h0 e];rfl)
       rw [if_pos ⟨by rw [zHC,hd],by simp;omega⟩,if_pos ⟨hl,h0⟩]
      ·rw [if_neg (fun h => ?_),if_neg (fun h => h0 h.2)]
       have h:=h.1
       rw [zHC] at h
       refine h0 fun e => ?_
       have hz:=zCt m (by rw [h,e];rfl)
       rw [hz,zCU] at h
       exact (List.cons.inj h).2.symm
    ·rw [if_neg (fun h => hl h.1)]
     cases Lib.signless (Lib.parseMag (c :: r)) with
     | ok v => simp;omega
     | _ => rfl
def spl:List UInt8→List (List UInt8)
 | [] => [[]]
 | b :: l => if b=32 then [] :: spl l else match spl l with
  | [] => [[b]]
  | x :: r => (b :: x) :: r
theorem zKM (s:List UInt8):Lib.splitK [32] 0 (s.count 32) s=spl s:=by
 induction s with
 | nil => rfl
 | cons b l ih =>
  by_cases h:b=32
  ·subst h
   rw [List.count_cons_self]
   have hi:Lib.index (32 :: l) [32]=0:=by rw [Lib.index];simp [List.isPrefixOf]
   simp [Lib.splitK,hi,spl,ih]
  ·rw [List.count_cons_of_ne h]
   have hix:Lib.index (b :: l) [32]=if Lib.index l [32] == -1 then -1 else Lib.index l [32] + 1:=by rw [Lib.index];simp [List.isPrefixOf,Ne.symm h]
   cases hk:l.count 32 with
   | zero =>
    rw [hk] at ih
    unfold spl
    rw [if_neg h,← ih];rfl
   | succ k =>
    rw [hk] at ih
    have hge:=Lib.index_ge l [32]
    unfold spl
    rw [if_neg h,← ih]
    by_cases hm:Lib.index l [32] = -1
    ·have hm2:Lib.index (b :: l) [32] = -1:=by rw [hix,hm];rfl
     simp [Lib.splitK,hm2,hm]
    ·obtain ⟨j,hj⟩:∃ j:Nat,Lib.index l [32]=j:=⟨(Lib.index l [32]).toNat,by omega⟩
     have hm2:Lib.index (b :: l) [32]=((j + 1:Nat):Int):=by rw [hix,if_neg (by simpa using hm),hj];rfl
     have n1:¬ ((j:Int) = -1):=by omega
     have n2:¬ (((j + 1:Nat):Int) = -1):=by omega
     simp only [Lib.splitK,hm2,hj,beq_iff_eq,n1,n2,if_false,Int.toNat_natCast]
     rfl
theorem zNc {l:List UInt8} (h:32 ∉ l):spl l=[l]:=by
 induction l with
 | nil => rfl
 | cons b l ih =>
  unfold spl
  rw [if_neg (fun e => h (by simp [e])),ih (fun e => h (by simp [e]))]
theorem zNe {a l:List UInt8} (h:32 ∉ a):spl (a ++ 32 :: l)=a :: spl l:=by
 induction a with
 | nil => simp [spl]
 | cons b t ih =>
  rw [List.cons_append,show spl (b :: (t ++ 32 :: l))=if b=32 then [] :: spl (t ++ 32 :: l) else match spl (t ++ 32 :: l) with
   | [] => [[b]]
   | x :: r => (b :: x) :: r from rfl,if_neg (fun e => h (by simp [e])),ih (fun e => h (by simp [e]))]
theorem zHv {d:Nat} (h:d < 10):(UInt8.ofNat (48 + d)).toNat=48 + d:=by
 rw [UInt8.toNat_ofNat'];omega
theorem zKz (m:Nat):∀ b ∈ Lib.decDigits m,48≤b.toNat∧b.toNat≤57:=by
 induction m using Nat.strongRecOn with
 | ind m ih =>
  intro b hb
  rw [Lib.decDigits] at hb
  split at hb
  ·rename_i h
   rw [List.mem_singleton] at hb
   rw [hb,zHv h];omega
  ·rcases List.mem_append.1 hb with hb | hb
   ·exact ih _ (by omega) b hb
   ·rw [List.mem_singleton] at hb
    have:=Nat.mod_lt m (show 0 < 10 by omega)
    rw [hb,zHv this];omega
theorem zM5 (n:Int):(32:UInt8) ∉ Lib.itoa n:=by
 have h:=fun m h => (zKz m 32 h).1
 unfold Lib.itoa
 split
 ·intro e
  rcases List.mem_cons.1 e with e | e
  ·exact absurd e (by decide)
  ·exact absurd (h _ e) (by decide)
 ·intro e
  exact absurd (h _ e) (by decide)
theorem zEQ (m:Nat) (k:Nat) (h:m < 10 ^ (k + 1)):(Lib.decDigits m).length≤k + 1:=by
 induction k generalizing m with
 | zero =>
  rw [Lib.decDigits,dif_pos (by simpa using h)];simp
 | succ k ih =>
  rw [Lib.decDigits]
  split
  ·simp
  ·rw [List.length_append]
   have:=ih (m / 10) (by rw [Nat.pow_succ] at h;omega)
   simp;omega
theorem zMG {n:Int} (h0 : -1000000000 < n) (h1:n < 1000000000):numD (Lib.itoa n)=some n:=by
 by_cases hn:n < 0
 ·obtain ⟨m,rfl⟩:∃ m:Nat,n = -(m:Int):=⟨n.natAbs,by omega⟩
  rw [itoa_neg (by omega)]
  have h2:=zEQ m 8 (by omega)
  have h3:=List.length_pos_iff.2 (zMz m)
  rw [zEG,if_pos rfl,if_pos ⟨h3,h2,fun e => by have:=zCt m e;omega⟩,zDf,Option.map_some]
 ·obtain ⟨m,rfl⟩:∃ m:Nat,n=(m:Int):=⟨n.toNat,by omega⟩
  rw [zHC]
  have h2:=zEQ m 8 (by omega)
  obtain ⟨d,r,hd,e⟩:=zDV m
  have h5:=zDf m
  have h6:=zCt m
  rw [e] at h2 h5 h6
  have hc:UInt8.ofNat (48 + d)≠45:=fun e2 => by
   have:=zCu hd
   rw [e2] at this
   cases this
  have hh:UInt8.ofNat (48 + d)=48→r=[]:=fun e2 => by
   have hz:=h6 (by rw [e2];rfl)
   rw [hz,zCU] at e
   exact (List.cons.inj e).2.symm
  rw [e,zEG,if_neg hc,if_pos ⟨by simpa using h2,hh⟩,h5,Option.map_some]
end Go.Proofs.YticjeianiahppaaGreatDoor
