/- book, laws: one more loss, fewer words, a line behind lines (plain) -/
import Derived.Test.YticjeianiahppaaGreatDoorVi
import Derived.Test.YticjeianiahppaaGreatDoorVe
namespace Go.Proofs.YticjeianiahppaaGreatDoor
set_option linter.unusedVariables false
set_option linter.unusedSimpArgs false
set_option linter.unnecessarySimpa false
open Go.RowKit Go.Flow
theorem after_snoc (l:List ByteArray) (s:ByteArray):afterL (l ++ [s])=lineS (afterL l) s:=playS_snoc _ l s
theorem fault_more {l m:List ByteArray} (h:faultL l=0) (hn:l.length + m.length≤50) (hs:∀ s ∈ m,s.size≤80):faultL (l ++ m)=0:=by
 obtain ⟨h50,h80⟩:=fault_ok h
 unfold faultL
 rw [if_pos]
 simp only [Bool.and_eq_true,decide_eq_true_eq,List.all_eq_true]
 refine ⟨by rw [List.length_append];omega,fun s hm => ?_⟩
 rcases List.mem_append.1 hm with hm | hm
 ·have:=h80 s hm;unfold shortB;simpa using this
 ·have:=hs s hm;unfold shortB;simpa using this
def lineB (c:Cmd) (n:List Int):ByteArray:=⟨(lineL c n).toArray⟩
theorem lineB_parse (c:Cmd) (n:List Int) (hn:n.length=c.many) (hb:∀ x ∈ n,-1000000000 < x∧x < 1000000000):parseF (lineB c n)=some (c,n):=by
 rw [parseF_eq];exact parse_line c n hn hb
theorem word_len (c:Cmd):c.word.length≤7:=by cases c <;> decide
theorem lineB_size (c:Cmd) (n:List Int) (hn:n.length≤4) (hb:∀ x ∈ n,0≤x∧x < 1000):(lineB c n).size≤80:=by
 have h:∀ n:List Int,(∀ x ∈ n,0≤x∧x < 1000)→(n.flatMap fun x => 32 :: Lib.itoa x).length≤4 * n.length:=fun n => by
  induction n with
  | nil => intro _;simp
  | cons x t ih =>
   intro hb
   have h1:=ih (fun y hy => hb y (List.mem_cons_of_mem _ hy))
   have h2:=hb x List.mem_cons_self
   have h3:=itoa_len3 x.toNat (by omega)
   rw [Int.toNat_of_nonneg h2.1] at h3
   rw [List.flatMap_cons,List.length_append,List.length_cons,List.length_cons]
   omega
 have h1:=h n hb
 have h2:=word_len c
 show (lineL c n).toArray.size≤80
 rw [List.size_toArray]
 unfold lineL
 rw [List.length_append]
 omega
theorem lost_law {S:BSt} (a b:Int) (h:parseF (lineB .lost [a,b])=some (.lost,[a,b])) :
  (lineS S (lineB .lost [a,b])).days=S.days∧∀ i,i < S.days.length→0≤Cph.fromN S.lost (S.days.getD i 0) i→0≤Cph.fromN (lineS S (lineB .lost [a,b])).lost (S.days.getD i 0) i∧Cph.fromN (lineS S (lineB .lost [a,b])).lost (S.days.getD i 0) i≤Cph.fromN S.lost (S.days.getD i 0) i:=by
 rw [lineS_of h]
 by_cases h0:errL S .lost [a,b]=0
 ·rw [if_pos h0]
  refine ⟨rfl,fun i _ hp => ?_⟩
  have hb:0≤b:=by
   have h1:errC S .lost [a,b]=0:=by
    unfold errL at h0
    split at h0
    ·rename_i h1;exact h1
    ·rename_i h1;exact absurd h0 h1
   have:=chain_ok (l:=[(idxB a S.keys.length && idxB b S.days.length,7),(decide (S.lost.length < 6),3)]) (by simp) h1 _ List.mem_cons_self
   simp [idxB] at this
   omega
  show 0≤Cph.fromN (S.lost ++ [(a,b)]) _ _∧Cph.fromN (S.lost ++ [(a,b)]) _ _≤_
  have e:Cph.hadN (S.lost ++ [(a,b)]) (S.days.getD i 0)=Cph.hadStep (S.days.getD i 0) (Cph.hadN S.lost (S.days.getD i 0)) (a,b):=by unfold Cph.hadN;rw [List.foldl_append];rfl
  unfold Cph.fromN at *
  rw [e]
  generalize Cph.hadN S.lost (S.days.getD i 0)=f at *
  unfold Cph.hadStep
  split at hp
  ·omega
  ·rename_i hf
   rw [if_neg hf]
   split
   ·rw [if_neg (by simp only;omega)];simp only at *; omega
   ·first | omega | (rw [if_neg hf];omega)
 ·rw [if_neg h0]
  exact ⟨rfl,fun i _ hp => ⟨hp,Int.le_refl _⟩⟩
theorem undo_all (l:List ByteArray) {s t:ByteArray} (h:lineS (lineS (afterL l) s) t=afterL l∧(lineE (afterL l) s=0↔lineE (lineS (afterL l) s) t=0)) :
  afterL (l ++ [s,t])=afterL l∧((playE BSt.begun (l ++ [s,t])).getD l.length 0=0↔(playE BSt.begun (l ++ [s,t])).getD (l.length + 1) 0=0):=by
 refine ⟨by show playS _ _=_;rw [playS_app];exact h.1,?_⟩
 rw [playE_get _ _ _ (by simp),playE_get _ _ _ (by simp)]
 have e1:(l ++ [s,t]).take l.length=l:=by simp
 have e2:(l ++ [s,t]).take (l.length + 1)=l ++ [s]:=by rw [List.take_append,List.take_of_length_le (by omega)];simp
 have e3:(l ++ [s,t])[l.length]'(by simp)=s:=by simp
 have e4:(l ++ [s,t])[l.length + 1]'(by simp)=t:=by simp
 rw [e1,e2,e3,e4,playS_snoc]
 exact h.2
end Go.Proofs.YticjeianiahppaaGreatDoor
