/- The post: a truth proves a journal; of a journal that is explained nothing is odd (cut out of an older proof, for no entry left out). -/
import Derived.Test.YticjeianiahppaaGreatDoorBD
import Derived.ChangeOld
import Derived.ChangeSame
import Derived.Deep.AppendLies
import Derived.Deep.DeepCutAuto
import Derived.Deep.Fields
import Derived.Deep.RegionHeld3
import Derived.Deep.Slices
import Derived.Deep.WholeRow
import Derived.DeepKeys4
import Derived.Laws.CopyOwn
import Derived.Laws.Rows
import Derived.Laws.Tables
import Derived.Lib.SmallJoins
import Derived.LoopIn
import Derived.LoopNIn
import Derived.Maps.AppendAt
import Derived.Maps.OwnSet
import Derived.OpenShut
import Derived.OwnWalkIn
import Derived.ProofKit
import Derived.RangeFuncBound
import Derived.RangeFuncBox
import Derived.RangeFuncCalls
import Derived.RangeFuncLeaves
import Derived.RangeFuncNested
import Derived.Shelf.Abstract
import Derived.Shelf.RegionOpen
import Derived.ShutString
import Derived.SizedLaws
import Derived.TacticsInMore
set_option linter.unusedVariables false
set_option linter.unusedSimpArgs false
set_option linter.unnecessarySimpa false
namespace Go.Proofs.YticjeianiahppaaGreatDoor.Cps
open Go.RowKit Go.Flow
def comesF:List Leg→List Int→Int→Int
  | l :: ls,t :: ts,s => comesF ls ts (awk l (s + t))
  | _,_,s => s
def comeR (r:Route) (s:Int) (ts:List Int):Int:=if ts=[] then 101 else comesF r.legs ts s
end Go.Proofs.YticjeianiahppaaGreatDoor.Cps
namespace Go.Proofs.YticjeianiahppaaGreatDoor.Cps
open Go.RowKit Go.Flow
def rowBad (r:Route) (ts:List Int):Bool:=!(r.lossy && decide (ts.length=0)) && decide (ts.length≠r.legs.length)
def inB:List Int→List Leg→Bool
  | t :: ts,l :: ls => inR t (l.lo,l.hi) && inB ts ls
  | _,_ => true
def midE (right:Bool):List (List Int)→List Route→(Bool→Int)→Int
  | ts :: l,r :: rs,f => if rowBad r ts then 2 else midE (right && inB ts r.legs) l rs f
  | _,_,f => f right
def outE (rs:List Route) (right:Bool):List (List (List Int))→Int
  | l :: t => if l.length≠rs.length then 2 else midE right l rs (fun r => outE rs r t)
  | [] => if right then 0 else 11
def shapeErr (p:Post) (t:List (List (List Int))):Int:=if t.length≠p.sends.length then 2 else outE p.routes true t
end Go.Proofs.YticjeianiahppaaGreatDoor.Cps
namespace Go.Proofs.YticjeianiahppaaGreatDoor.Cps
open Go.RowKit Go.Flow
def hourGo (s:Int):Int→List (List Int)→List Route→Int
  | h,ts :: l,r :: rs => hourGo s (min h (comeR r s ts)) l rs
  | h,_,_ => h
def playGo (p:Post):Nat→Int→List (List (List Int))→List Ent
  | i,before,l :: t => recvF p i before (hourGo (p.sends.getD i 0) 101 l p.routes) :: playGo p (i + 1) (recvF p i before (hourGo (p.sends.getD i 0) 101 l p.routes)).at_ t
  | _,_,[] => []
def playF (p:Post) (t:List (List (List Int))):List Ent:=playGo p 0 0 t
end Go.Proofs.YticjeianiahppaaGreatDoor.Cps
namespace Go.Proofs.YticjeianiahppaaGreatDoor.Cps
open Go.RowKit Go.Flow
structure TruthSmall (t:List (List (List Int))):Prop where
  n:t.length≤1000
  l:∀ l ∈ t,l.length≤1000
  r:∀ l ∈ t,∀ ts ∈ l,ts.length≤1000
end Go.Proofs.YticjeianiahppaaGreatDoor.Cps
namespace Go.Proofs.YticjeianiahppaaGreatDoor.Cps
open Go.RowKit Go.Flow Go.Shelf
attribute [local go_sem] Oper.semAt_some
end Go.Proofs.YticjeianiahppaaGreatDoor.Cps
namespace Go.Proofs.YticjeianiahppaaGreatDoor.Cps
open Go.RowKit Go.Flow Go.Shelf
attribute [local go_sem] Oper.semAt_some
end Go.Proofs.YticjeianiahppaaGreatDoor.Cps
namespace Go.Proofs.YticjeianiahppaaGreatDoor.Cps
open Go.RowKit Go.Flow Go.Shelf
attribute [local go_sem] Oper.semAt_some
end Go.Proofs.YticjeianiahppaaGreatDoor.Cps
namespace Go.Proofs.YticjeianiahppaaGreatDoor.Cps
open Go.RowKit Go.Flow Go.Shelf
def explOk (j:List Ent) (e:Ent):Bool:=decide (j.getD e.num.toNat ⟨0,0,false⟩=e)
def explsB (p:Post) (t:List (List (List Int))) (l:List Ent):Bool:=l.all (explOk (playF p t))
theorem bookErr_ok' {p:Post} {l:List Ent} (h:bookErr p l=0):postErr p=0∧l.length≤8∧l.all (entOk p.sends.length)=true:=by
  unfold bookErr at h
  split at h
  · rename_i h1;exact absurd h h1
  · rename_i h1
    split at h
    · cases h
    · rename_i h2
      split at h
      · rename_i h3;exact ⟨by simpa using h1,by omega,h3⟩
      · cases h
end Go.Proofs.YticjeianiahppaaGreatDoor.Cps
namespace Go.Proofs.YticjeianiahppaaGreatDoor.Cps
open Go.RowKit Go.Flow
theorem legHr_it {l:Leg} {S:Hrs} {m:Nat}:legHr l S m=true↔∃ h j:Nat,h < 101∧S h=true∧j < (l.hi - l.lo + 1).toNat∧awk l (h + l.lo + j)=m:=by
  simp only [legHr,List.any_eq_true,Bool.and_eq_true,decide_eq_true_eq,List.mem_range]
  constructor
  · rintro ⟨h,h1,h2,j,h3,h4⟩;exact ⟨h,j,h1,h2,h3,h4⟩
  · rintro ⟨h,j,h1,h2,h3,h4⟩;exact ⟨h,h1,h2,j,h3,h4⟩
theorem takesF_sound:∀ (ls:List Leg) (s h:Int) (ts:List Int),takesF ls s h=some ts→inB ts ls=true∧comesF ls ts s=h
  | [],s,h,ts,e => by
    rw [takesF] at e
    split at e
    · rename_i hs;cases e;exact ⟨rfl,hs⟩
    · cases e
  | l :: ls,s,h,ts,e => by
    rw [takesF] at e
    obtain ⟨j,hj,hm⟩:=List.exists_of_findSome?_eq_some e
    rw [Option.map_eq_some_iff] at hm
    obtain ⟨y,hy,rfl⟩:=hm
    obtain ⟨h1,h2⟩:=takesF_sound ls _ h y hy
    have hjb:=List.mem_range.1 hj
    refine ⟨?_,h2⟩
    rw [inB,h1,Bool.and_true]
    exact inR_iff.2 ⟨by show l.lo≤l.lo + j;omega,by show l.lo + (j:Int)≤l.hi;omega⟩
theorem takesF_full:∀ (ls:List Leg) (S:Hrs) (h:Nat),ls.foldl (fun S l => legHr l S) S h=true→∃ s:Nat,S s=true∧takesF ls s h≠none
  | [],S,h,hS => ⟨h,hS,by rw [takesF,if_pos rfl];simp⟩
  | l :: ls,S,h,hf => by
    obtain ⟨s',h1,h2⟩:=takesF_full ls (legHr l S) h hf
    obtain ⟨s,j,_,g2,g3,g4⟩:=legHr_it.1 h1
    refine ⟨s,g2,?_⟩
    rw [takesF]
    intro hn
    have:=List.findSome?_eq_none_iff.1 hn j (List.mem_range.2 g3)
    rw [Option.map_eq_none_iff,show (s:Int) + (l.lo + j)=(s:Int) + l.lo + j by omega,g4] at this
    exact h2 this
theorem hourGo_min (s h:Int):∀ (l:List (List Int)) (rs:List Route) (H:Int),l.length=rs.length→h≤H→(∀ (j:Nat) (h1:j < l.length) (h2:j < rs.length),h≤comeR rs[j] s l[j])→(H=h∨∃ (j:Nat) (h1:j < l.length) (h2:j < rs.length),comeR rs[j] s l[j]=h)→hourGo s H l rs=h
  | [],[],H,_,_,_,hx => by
    rcases hx with e | ⟨j,h1,_⟩
    · simp [hourGo,e]
    · simp at h1
  | [],_ :: _,_,e,_,_,_ => by simp at e
  | _ :: _,[],_,e,_,_,_ => by simp at e
  | ts :: l,r :: rs,H,e,hH,hall,hx => by
    rw [hourGo]
    have h0:=hall 0 (by simp) (by simp)
    simp only [List.getElem_cons_zero] at h0
    refine hourGo_min s h l rs _ (by simpa using e) (by omega) (fun j h1 h2 => hall (j + 1) (by simpa using h1) (by simpa using h2)) ?_
    rcases hx with e | ⟨j,h1,h2,e⟩
    · left;omega
    · cases j with
      | zero => simp only [List.getElem_cons_zero] at e;left;omega
      | succ j => exact Or.inr ⟨j,by simpa using h1,by simpa using h2,by simpa using e⟩
section
variable {p:Post} (h0:postErr p=0) {i:Nat} (hi:i < p.sends.length)
include h0
theorem legs_pos {k:Nat} (hk:k < p.routes.length):0 < p.routes[k].legs.length:=by
  have:=List.all_eq_true.1 (postErr_ok h0).2.2.2.2.2.2.2.2 _ (List.getElem_mem hk)
  simp only [routeOk,Bool.and_eq_true,decide_eq_true_eq] at this
  exact this.1
include hi
omit h0 hi in
theorem takes_hr {k:Nat} (hk:k < p.routes.length) {h:Nat} (hh:hrF p i k h=true):takesF p.routes[k].legs (p.sends.getD i 0) h≠none:=by
  have e:hrF p i k=p.routes[k].legs.foldl (fun S l => legHr l S) (oneHr (p.sends.getD i 0)):=by
    unfold hrF routeHr
    rw [List.getElem?_eq_getElem hk];rfl
  rw [e] at hh
  obtain ⟨s,h1,h2⟩:=takesF_full _ _ _ hh
  have:(s:Int)=p.sends.getD i 0:=of_decide_eq_true h1
  rw [← this];exact h2
theorem takes_last {k:Nat} (hk:k < p.routes.length):∃ ts,takesF p.routes[k].legs (p.sends.getD i 0) (lastH (hrF p i k))=some ts:=by
  obtain ⟨m,_,h2,h3,_⟩:=lastH_spec (post_ne h0 hi k hk)
  rw [h3]
  exact Option.ne_none_iff_exists'.1 (takes_hr hk h2)
theorem truth1_fit {k:Nat} (hk:k < p.routes.length) (h:Int):rowBad p.routes[k] (truth1 p i h k)=false∧inB (truth1 p i h k) p.routes[k].legs=true:=by
  unfold truth1
  rw [show p.routes.getD k ⟨[],false⟩=p.routes[k] by simp [hk]]
  cases ht:takesF p.routes[k].legs (p.sends.getD i 0) h with
  | some z =>
    have hl:=takesF_len _ _ _ z ht
    exact ⟨by simp [rowBad,hl],(takesF_sound _ _ _ z ht).1⟩
  | none =>
    cases hy:p.routes[k].lossy
    · obtain ⟨ts,hts⟩:=takes_last h0 hi hk
      have hl:=takesF_len _ _ _ ts hts
      simp only [hts,Option.getD_some]
      exact ⟨by simp [rowBad,hl],by simpa using (takesF_sound _ _ _ ts hts).1⟩
    · exact ⟨by simp [rowBad,hy],by simp [inB]⟩
omit hi in
theorem come_of {k:Nat} (hk:k < p.routes.length) {h:Int} {ts:List Int} (ht:takesF p.routes[k].legs (p.sends.getD i 0) h=some ts):comeR p.routes[k] (p.sends.getD i 0) ts=h:=by
  have hl:=takesF_len _ _ _ ts ht
  have hp:=legs_pos h0 hk
  unfold comeR
  rw [if_neg (fun e => by rw [e] at hl;simp at hl;omega)]
  exact (takesF_sound _ _ _ ts ht).2
theorem truth1_come {h:Nat} (hh:h≤101) (hc:canB p i h=true) {k:Nat} (hk:k < p.routes.length):(h:Int)≤comeR p.routes[k] (p.sends.getD i 0) (truth1 p i h k)∧(hrF p i k h=true→comeR p.routes[k] (p.sends.getD i 0) (truth1 p i h k)=h):=by
  have hb:=(can_iff.1 hc).1 k hk
  unfold truth1
  rw [show p.routes.getD k ⟨[],false⟩=p.routes[k] by simp [hk]]
  cases ht:takesF p.routes[k].legs (p.sends.getD i 0) (h:Int) with
  | some z =>
    have:=come_of h0 hk ht
    simp only
    exact ⟨by omega,fun _ => this⟩
  | none =>
    refine ⟨?_,fun hq => absurd ht (takes_hr hk hq)⟩
    unfold badK lossyK at hb
    rw [List.getElem?_eq_getElem hk] at hb
    simp only [Option.map_some,Option.getD_some] at hb
    cases hy:p.routes[k].lossy
    · obtain ⟨ts,hts⟩:=takes_last h0 hi hk
      have:=come_of h0 hk hts
      rw [hy] at hb
      simp at hb
      simp only [hts,Option.getD_some,Bool.false_eq_true,if_false]
      omega
    · simp only [if_true]
      unfold comeR
      rw [if_pos rfl];omega
theorem truthRow_hour {h:Nat} (hh:h≤101) (hc:canB p i h=true):hourGo (p.sends.getD i 0) 101 (truthRow p i h) p.routes=h:=by
  have hlen:(truthRow p i h).length=p.routes.length:=by simp [truthRow]
  have hat:∀ (j:Nat) (h1:j < (truthRow p i (h:Int)).length),(truthRow p i h)[j]=truth1 p i h j:=fun j h1 => by simp [truthRow]
  refine hourGo_min _ _ _ _ _ hlen (by omega) (fun j h1 h2 => ?_) ?_
  · rw [hat];exact (truth1_come h0 hi hh hc h2).1
  · rcases (can_iff.1 hc).2 with e | ⟨j,hj,_,hr⟩
    · left;omega
    · right
      refine ⟨j,by rw [hlen];exact hj,hj,?_⟩
      rw [hat];exact (truth1_come h0 hi hh hc hj).2 hr
end
def rowsFrom (p:Post):Nat→List Int→List (List (List Int))
  | _,[] => []
  | i,h :: z => truthRow p i h :: rowsFrom p (i + 1) z
theorem rowsFrom_at (p:Post):∀ (z:List Int) (i q:Nat),(rowsFrom p i z)[q]?=(z[q]?).map (truthRow p (i + q))
  | [],i,q => by simp [rowsFrom]
  | h :: z,i,0 => by simp [rowsFrom]
  | h :: z,i,q + 1 => by
    simp only [rowsFrom,List.getElem?_cons_succ,rowsFrom_at p z (i + 1) q]
    rw [show i + 1 + q=i + (q + 1) by omega]
theorem truthF_rows (p:Post) (z:List Int):truthF p z=rowsFrom p 0 z:=by
  apply List.ext_getElem?
  intro q
  rw [rowsFrom_at,Nat.zero_add]
  unfold truthF
  rw [List.getElem?_map]
  by_cases hq:q < z.length
  · rw [List.getElem?_range hq,List.getElem?_eq_getElem hq]
    simp [hq]
  · rw [List.getElem?_eq_none (by simpa using hq),List.getElem?_eq_none (by simpa using hq)];rfl
theorem play_path {p:Post} (h0:postErr p=0) {l:List Ent}:∀ (r i:Nat) (f:Int) (z:List Int),i + r=p.sends.length→nextR p l r i f=some z→∀ (q:Nat),q < r→∀ e ∈ l,e.num=((i + q:Nat):Int)→(playGo p i f (rowsFrom p i z))[q]?=some e
  | 0,i,f,z,_,_,q,hq,_,_,_ => by omega
  | r + 1,i,f,z,hi,hz,q,hq,e,he,hen => by
    rw [nextR] at hz
    obtain ⟨h,hh,hj⟩:=List.exists_of_findSome?_eq_some hz
    have hh':=List.mem_range.1 hh
    split at hj
    · rename_i hc
      rw [Bool.and_eq_true] at hc
      rw [Option.map_eq_some_iff] at hj
      obtain ⟨y,hy,rfl⟩:=hj
      rw [rowsFrom,playGo,truthRow_hour h0 (by omega) (by omega) hc.1]
      cases q with
      | zero =>
        have hf:=hc.2
        unfold fitsB at hf
        simp only [Bool.not_eq_true',List.any_eq_false] at hf
        have h3:=hf e he
        rw [List.getElem?_cons_zero]
        simp only [Nat.add_zero] at hen
        have hn:(recvF p i f h).num=(i:Int):=rfl
        congr 1
        generalize recvF p i f h=R at h3 hn
        obtain ⟨r0,r1,r2⟩:=R
        obtain ⟨e0,e1,e2⟩:=e
        simp only at hen hn
        subst hen hn
        by_cases c1:e1=r1
        · by_cases c2:e2=r2
          · rw [c1,c2]
          · exact absurd (by simp [wrongB,entNe,c2]) h3
        · exact absurd (by simp [wrongB,entNe,c1]) h3
      | succ q =>
        rw [List.getElem?_cons_succ]
        exact play_path h0 r (i + 1) _ y (by omega) hy q (by omega) e he (by rw [hen];congr 1;omega)
    · cases hj
theorem midE_it (f:Bool→Int):∀ (l:List (List Int)) (rs:List Route),l.length=rs.length→(∀ (j:Nat) (h1:j < l.length) (h2:j < rs.length),rowBad rs[j] l[j]=false∧inB l[j] rs[j].legs=true)→midE true l rs f=f true
  | [],[],_,_ => by simp [midE]
  | [],_ :: _,h,_ => by simp at h
  | _ :: _,[],h,_ => by simp at h
  | ts :: l,r :: rs,h,hf => by
    obtain ⟨h1,h2⟩:=hf 0 (by simp) (by simp)
    simp only [List.getElem_cons_zero] at h1 h2
    rw [midE,h1,h2]
    simp only [Bool.and_true]
    exact midE_it f l rs (by simpa using h) (fun j h1 h2 => hf (j + 1) (by simpa using h1) (by simpa using h2))
theorem outE_it (rs:List Route):∀ (t:List (List (List Int))),(∀ l ∈ t,l.length=rs.length∧∀ (j:Nat) (h1:j < l.length) (h2:j < rs.length),rowBad rs[j] l[j]=false∧inB l[j] rs[j].legs=true)→outE rs true t=0
  | [],_ => by simp [outE]
  | l :: t,h => by
    obtain ⟨h1,h2⟩:=h l (by simp)
    rw [outE,if_neg (by simpa using h1),midE_it _ l rs h1 h2]
    exact outE_it rs t (fun x hx => h x (by simp [hx]))
theorem truthF_ok {p:Post} (h0:postErr p=0) {z:List Int} (hz:z.length=p.sends.length):shapeErr p (truthF p z)=0∧TruthSmall (truthF p z):=by
  have l1:=(postErr_ok h0).1
  have l2:=(postErr_ok h0).2.1
  have hrow:∀ l ∈ truthF p z,∃ i,i < p.sends.length∧l=truthRow p i (z.getD i 0):=by
    intro l hl
    obtain ⟨i,hi,rfl⟩:=List.mem_map.1 hl
    exact ⟨i,by have:=List.mem_range.1 hi;omega,rfl⟩
  refine ⟨?_,?_,fun l hl => ?_,fun l hl ts hts => ?_⟩
  · unfold shapeErr
    rw [if_neg (by simp [truthF,hz])]
    refine outE_it _ _ (fun l hl => ?_)
    obtain ⟨i,hi,rfl⟩:=hrow l hl
    refine ⟨by simp [truthRow],fun j h1 h2 => ?_⟩
    rw [show (truthRow p i (z.getD i 0))[j]=truth1 p i (z.getD i 0) j by simp [truthRow]]
    exact truth1_fit h0 hi h2 _
  · simp [truthF];omega
  · obtain ⟨i,hi,rfl⟩:=hrow l hl
    simp [truthRow];omega
  · obtain ⟨i,hi,rfl⟩:=hrow l hl
    obtain ⟨j,hj,rfl⟩:=List.mem_map.1 hts
    have hj':=List.mem_range.1 hj
    have hr:=(truth1_fit h0 hi hj' (z.getD i 0)).1
    have l3:=(post_legs h0 p.routes[j] (List.getElem_mem hj')).1
    unfold rowBad at hr
    simp at hr
    by_cases he:truth1 p i (z.getD i 0) j=[]
    · rw [he];simp
    · have h9:(truth1 p i (z.getD i 0) j).length=p.routes[j].legs.length:=by
        apply hr
        exact Or.inr (by simpa using he)
      omega
theorem explain_ok {p:Post} {l:List Ent} (hb:bookErr p l=0) {z:List Int} (hz:searchF p l=some z):shapeErr p (truthF p z)=0∧TruthSmall (truthF p z)∧explsB p (truthF p z) l=true:=by
  obtain ⟨h0,_,hall⟩:=bookErr_ok' hb
  have hlz:z.length=p.sends.length:=nextR_len _ _ _ z hz
  obtain ⟨h1,h2⟩:=truthF_ok h0 hlz
  refine ⟨h1,h2,?_⟩
  unfold explsB
  rw [List.all_eq_true]
  intro e he
  have hen:=List.all_eq_true.1 hall e he
  simp only [entOk,Bool.and_eq_true] at hen
  have hb:=inR_iff.1 hen.1
  obtain ⟨m,hm⟩:∃ m:Nat,e.num=(m:Int):=⟨e.num.toNat,by omega⟩
  have key:=play_path h0 p.sends.length 0 0 z (by omega) hz m (by omega) e he (by rw [hm,Nat.zero_add])
  unfold explOk playF
  rw [truthF_rows,hm,Int.toNat_natCast]
  refine decide_eq_true ?_
  rw [List.getD_eq_getElem?_getD,key];rfl
end Go.Proofs.YticjeianiahppaaGreatDoor.Cps
namespace Go.Proofs.YticjeianiahppaaGreatDoor.Cps
open Go.RowKit Go.Flow
theorem firstH_spec {f:Hrs} (hne:hrList f≠[]):∃ m:Nat,m≤100∧f m=true∧firstH f=(m:Int)∧∀ n,n≤100→f n=true→m≤n:=by
  have hs:=hrs_sorted f
  unfold firstH
  unfold hrList at hne ⊢
  have hmem:∀ n,n ∈ (List.range 101).filter f↔n < 101∧f n=true:=fun n => by rw [List.mem_filter,List.mem_range]
  generalize (List.range 101).filter f=L at hs hne hmem ⊢
  have hL:L≠[]:=fun e => hne (by rw [e];rfl)
  have hpos:0 < L.length:=List.length_pos_iff.2 hL
  refine ⟨L[0],?_,?_,?_,?_⟩
  · have:=(hmem _).1 (List.getElem_mem hpos);omega
  · exact ((hmem _).1 (List.getElem_mem hpos)).2
  · simp [hpos]
  · intro n h1 h2
    obtain ⟨j,hj,rfl⟩:=List.getElem_of_mem ((hmem n).2 ⟨by omega,h2⟩)
    rcases Nat.lt_or_ge 0 j with h | h
    · exact Nat.le_of_lt (List.pairwise_iff_getElem.1 hs 0 _ hpos hj h)
    · have e:j=0:=by omega
      subst e;exact Nat.le_refl _
theorem earN_le (p:Post) (i:Nat):∀ k,earN p i k≤101
  | 0 => by simp [earN]
  | k + 1 => by have:=earN_le p i k;rw [earN_succ];omega
theorem earN_low (p:Post) (i:Nat):∀ k j,j < k→earN p i k≤firstH (hrF p i j)
  | k + 1,j,hj => by
    rw [earN_succ]
    by_cases e:j=k
    · subst e;omega
    · have:=earN_low p i k j (by omega)
      omega
theorem earN_at (p:Post) (i:Nat):∀ k,earN p i k=101∨∃ j,j < k∧earN p i k=firstH (hrF p i j)
  | 0 => .inl rfl
  | k + 1 => by
    rw [earN_succ]
    by_cases e:earN p i k≤firstH (hrF p i k)
    · rw [Int.min_eq_left e]
      rcases earN_at p i k with h | ⟨j,hj,h⟩
      · exact .inl h
      · exact .inr ⟨j,by omega,h⟩
    · rw [Int.min_eq_right (by omega)]
      exact .inr ⟨k,by omega,rfl⟩
theorem earliest_spec {p:Post} (h0:postErr p=0) {i:Nat} (hi:i < p.sends.length):∃ m:Nat,m≤101∧earliestF p i=(m:Int)∧canB p i m=true∧∀ h,h≤101→canB p i h=true→m≤h:=by
  have hne:=post_ne h0 hi
  have hat:=earN_at p i p.routes.length
  have hle:=earN_le p i p.routes.length
  have hlow:=earN_low p i p.routes.length
  have hnn:0≤earN p i p.routes.length:=by
    rcases hat with h | ⟨j,hj,h⟩
    · omega
    · obtain ⟨m,_,_,h2,_⟩:=firstH_spec (hne j hj);omega
  unfold earliestF
  refine ⟨(earN p i p.routes.length).toNat,by omega,by omega,can_iff.2 ⟨fun k hk => ?_,?_⟩,fun h hh hc => ?_⟩
  · unfold badK
    have h1:=hlow k hk
    obtain ⟨m,hm,f1,f2,f3⟩:=firstH_spec (hne k hk)
    obtain ⟨m',hm',g1,g2,g3⟩:=lastH_spec (hne k hk)
    have:=g3 m hm f1
    have e:decide (lastH (hrF p i k) < ((earN p i p.routes.length).toNat:Int))=false:=by rw [decide_eq_false_iff_not];omega
    rw [e,Bool.and_false]
  · rcases hat with h | ⟨j,hj,h⟩
    · left;omega
    · obtain ⟨m,hm,h1,h2,_⟩:=firstH_spec (hne j hj)
      right
      refine ⟨j,hj,by omega,?_⟩
      rw [show (earN p i p.routes.length).toNat=m by omega];exact h1
  · obtain ⟨h1,h2⟩:=can_iff.1 hc
    rcases h2 with e | ⟨j,hj,e,h2⟩
    · omega
    · obtain ⟨m,hm,f1,f2,f3⟩:=firstH_spec (hne j hj)
      have:=f3 h (by omega) h2
      have:=hlow j hj
      omega
end Go.Proofs.YticjeianiahppaaGreatDoor.Cps
namespace Go.Proofs.YticjeianiahppaaGreatDoor.Cps
open Go.RowKit Go.Flow
theorem comesF_step (ls:List Leg) (ts:List Int) (s:Int) (k:Nat) (h1:k < ls.length) (h2:k < ts.length):comesF (ls.drop k) (ts.drop k) s=comesF (ls.drop (k + 1)) (ts.drop (k + 1)) (awk ls[k] (s + ts[k])):=by
  rw [List.drop_eq_getElem_cons h1,List.drop_eq_getElem_cons h2];rfl
set_option maxHeartbeats 1500000 in
theorem comes_any (al:Option Addr) (ca:Nat) (r:Route) (s:Int) (at_:Option Addr) (ts:List Int) (ct:Nat) (w:World) (hr:LegsAt w al r.legs) (ht:IntsAt w at_ ts) (hlen:ts≠[]→ts.length=r.legs.length) (ln:r.legs.length≤3) (hok:r.legs.all legOk=true) (sm:∀ l ∈ r.legs,l.asl.length≤1000) (s0:0≤s) (s1:s≤100) (tb:∀ t ∈ ts,0≤t∧t≤100) :
    Calls Tryz.prog 195 #[.agg #[.slice al r.legs.length ca,.bool r.lossy],.int .i64 s,.slice at_ ts.length ct] w fun e w' => e=.returned (.int .i64 (comeR r s ts))∧Below w.heap.size w w':=by
  by_cases hz:ts=[]
  · subst hz
    go_enter Tryz.func195,Tryz.ntmps195
    go_wp2
    go_ret
    exact ⟨rfl,by (repeat (first | exact Below.refl _ _ | refine Below.alloc ?_ (by first | omega | (simp;done) | (simp;omega)) _ | refine Below.drew ?_ | refine Below.setCell ?_ (by first | omega | (simp;done) | (simp;omega)) _ | refine Below.trans ?_ (Below.mono (by assumption) (by first | omega | (simp;done) | (simp;omega)))))⟩
  have hlt:=hlen hz
  have hpos:0 < ts.length:=List.length_pos_iff.2 hz
  have Hc:Hid (comeR r s ts=comesF r.legs ts s):=by unfold comeR;rw [if_neg hz];exact Lib.hid rfl
  have hne:((ts.length:Int) == 0)=false:=by simp;omega
  have Hok:=Lib.hid hok
  clear hz hok hlen
  have hll:r.legs.length≤3:=ln
  have Hlt:=Lib.hid hlt
  clear hlt
  have hlt2:ts.length≤r.legs.length∧r.legs.length≤ts.length:=by have:=Hlt.out;omega
  go_enter Tryz.func195,Tryz.ntmps195
  go_wp2
  go_loopw [1,15] (fun x i wr => ∃ (k:Nat) (g:Int),k≤r.legs.length∧i=.int .i64 k∧x=.int .i64 g∧0≤g∧g≤131 + 100 * k∧comesF r.legs ts s=comesF (r.legs.drop k) (ts.drop k) g∧Below w.heap.size w wr) (fun _ i _ => r.legs.length - (intOf i).toNat)
  case atStart => exact ⟨0,s,Nat.zero_le _,rfl,rfl,s0,by omega,rfl,by (repeat (first | exact Below.refl _ _ | refine Below.alloc ?_ (by first | omega | (simp;done) | (simp;omega)) _ | refine Below.drew ?_ | refine Below.setCell ?_ (by first | omega | (simp;done) | (simp;omega)) _ | refine Below.trans ?_ (Below.mono (by assumption) (by first | omega | (simp;done) | (simp;omega)))))⟩
  case round =>
    obtain ⟨k,g,hk,rfl,rfl,g0,g1,hcf,hb⟩:=hrel
    have Hcf:=Lib.hid hcf
    clear hcf
    by_cases hkl:k < r.legs.length
    · obtain ⟨b,off,ar,ca2,rfl,hbl,c0,c1,c2,hR⟩:=hr k hkl
      obtain ⟨b',off',rfl,hbl',ct0⟩:=ht k (by omega)
      have Hst:=Lib.hid (comesF_step r.legs ts g k hkl (by omega))
      have hlk:legOk r.legs[k]=true:=List.all_eq_true.1 Hok.out _ (List.getElem_mem hkl)
      have hta:=tb ts[k] (List.getElem_mem (by omega))
      have hsm:=sm r.legs[k] (List.getElem_mem hkl)
      have ct0' : wr.cell? ⟨b',off' + k,none⟩=some (.int .i64 ts[k]):=((hb.cell (p:=⟨b',_,none⟩) hbl').trans ct0).trans (by simp [show k < ts.length by omega])
      have c0':=(hb.cell (p:=⟨b,_,none⟩) hbl).trans c0
      have c1':=(hb.cell (p:=⟨b,_,none⟩) hbl).trans c1
      have c2':=(hb.cell (p:=⟨b,_,none⟩) hbl).trans c2
      have hbr:b < wr.heap.size:=Nat.lt_of_lt_of_le hbl hb.size
      have hbr' : b' < wr.heap.size:=Nat.lt_of_lt_of_le hbl' hb.size
      have hRw:=hR.below hb
      clear ct0 c0 c1 c2 hR
      obtain ⟨l,hl⟩:∃ l,r.legs[k]=l:=⟨_,rfl⟩
      obtain ⟨t,htk⟩:∃ t,ts[k]=t:=⟨_,rfl⟩
      rw [hl] at Hst hlk hsm c0' c1' c2' hRw
      rw [htk] at Hst hta ct0'
      clear hl htk
      have has:l.asl.all (fun r => uptoB r 30)=true:=by simp only [legOk,Bool.and_eq_true] at hlk;exact hlk.2
      have hab:=awk_bd l (g + t)
      have Has:=Lib.hid has
      clear hlk has
      have hw1:IntKind.i64.wrap (g + t)=g + t:=IntWalk.i64_in _ (by omega)
      have hkI:(k:Int) < (ts.length:Int):=by omega
      have haw:∀ W,Below wr.heap.size wr W→Calls Tryz.prog 154 #[.agg #[.int .i64 l.lo,.int .i64 l.hi,.slice ar l.asl.length ca2],.int .i64 (g + t)] W fun e w' => e=.returned (.int .i64 (awk l (g + t)))∧Below W.heap.size W w' :=
        fun W b => awake_leg ar ca2 l (g + t) W (hRw.below b) hsm Has.out (by omega) (by omega)
      obtain ⟨q,hq⟩:∃ q,awk l (g + t)=q:=⟨_,rfl⟩
      rw [hq] at Hst haw hab
      clear hq hRw hsm
      have hw1:∀ o,Below wr.heap.size wr (wr.alloc o):=fun o => (Below.refl _ _).alloc (Nat.le_refl _) _
      go_wp2
      (refine wp_region_ext 8 (by kernel_rfl) (by kernel_rfl) ?_;simp only [List.take_succ_cons,List.take_zero,List.drop_succ_cons,List.drop_zero];(repeat (go_big_quiet_step (((go_at_call 154;refine Calls_ext (haw _ ((hw1 _).trans (Below.mono (Ext.below _) (hw1 _).size))))))));refine wpQuiet_nil ?_;rintro _ ⟨ex,rfl⟩;have hex:=ex.below;have hexz:=ex.size;(try simp at hexz);(try (have hy0:w.heap.size < ex.to.heap.size:=by omega));(try (have hy1:w.heap.size + 1 < ex.to.heap.size:=by omega));(try (have hy2:w.heap.size + 2 < ex.to.heap.size:=by omega)))
      go_wp2
      go_roundw
      case rel => exact ⟨k + 1,q,by omega,by go_num,rfl,by omega,by omega,by rw [Hcf.out,Hst.out],hb.trans ((hw1 _).trans (hex.mono (hw1 _).size) |>.mono hb.size)⟩
      case measure => simp [intOf];omega
    · obtain rfl:k=r.legs.length:=by omega
      go_wp2
      go_ret
      exact ⟨ret_n (by rw [Hc.out,Hcf.out,List.drop_eq_nil_of_le (Nat.le_refl _)];simp [comesF]),hb⟩
end Go.Proofs.YticjeianiahppaaGreatDoor.Cps
namespace Go.Proofs.YticjeianiahppaaGreatDoor.Cps
open Go.RowKit Go.Flow
theorem inB_step {ts:List Int} {ls:List Leg} {k:Nat} (h1:k < ts.length) (h2:k < ls.length):inB (ts.drop k) (ls.drop k)=(inR ts[k] (ls[k].lo,ls[k].hi) && inB (ts.drop (k + 1)) (ls.drop (k + 1))):=by
  rw [List.drop_eq_getElem_cons h1,List.drop_eq_getElem_cons h2];rfl
theorem midE_step {right:Bool} {l:List (List Int)} {rs:List Route} {f:Bool→Int} {k:Nat} (h1:k < l.length) (h2:k < rs.length):midE right (l.drop k) (rs.drop k) f=if rowBad rs[k] l[k] then 2 else midE (right && inB l[k] rs[k].legs) (l.drop (k + 1)) (rs.drop (k + 1)) f:=by
  rw [List.drop_eq_getElem_cons h1,List.drop_eq_getElem_cons h2];rfl
theorem outE_step {rs:List Route} {right:Bool} {t:List (List (List Int))} {k:Nat} (h1:k < t.length):outE rs right (t.drop k)=if t[k].length≠rs.length then 2 else midE right t[k] rs (fun r => outE rs r (t.drop (k + 1))):=by
  rw [List.drop_eq_getElem_cons h1];rfl
theorem cne {a b:Nat} (h:a≠b):((a:Int) != (b:Int))=true:=by simp;omega
theorem ceq {a b:Nat} (h:¬ a≠b):((a:Int) != (b:Int))=false:=by simp;omega
theorem inB_nil (ls:List Leg):inB [] ls=true:=by cases ls <;> rfl
set_option maxRecDepth 100000 in
set_option maxHeartbeats 4000000 in
theorem shaped_any (a:Option Addr) (c:Nat) (ar:Option Addr) (cr:Nat) (p:Post) (at_:Option Addr) (ct:Nat) (t:List (List (List Int))) (w:World) (hr:RoutesAt w ar p.routes) (ht:TruthAt w at_ t) (ls:p.sends.length≤1000) (lr:p.routes.length≤1000) (ll:∀ r ∈ p.routes,r.legs.length≤1000) (lt:t.length≤1000) (lt1:∀ l ∈ t,l.length≤1000) (lt2:∀ l ∈ t,∀ ts ∈ l,ts.length≤1000) :
    Calls Tryz.prog 134 #[.agg #[.slice a p.sends.length c,.slice ar p.routes.length cr,.int .i64 p.pat],.slice at_ t.length ct] w fun e w' => e=.returned (.int .i64 (shapeErr p t))∧Below w.heap.size w w':=by
  by_cases hl:t.length≠p.sends.length
  · have hl1:((t.length:Int) != (p.sends.length:Int))=true:=cne hl
    have Hl:=Lib.hid hl
    clear hl
    go_enter Tryz.func134,Tryz.ntmps134
    go_wp2
    go_ret
    exact ⟨ret_n (by unfold shapeErr;rw [if_pos Hl.out]),by (repeat (first | exact Below.refl _ _ | refine Below.alloc ?_ (by first | omega | (simp;done) | (simp;omega)) _ | refine Below.drew ?_ | refine Below.setCell ?_ (by first | omega | (simp;done) | (simp;omega)) _ | refine Below.trans ?_ (Below.mono (by assumption) (by first | omega | (simp;done) | (simp;omega)))))⟩
  have hl1:((t.length:Int) != (p.sends.length:Int))=false:=ceq hl
  have Hl:Hid (shapeErr p t=outE p.routes true (t.drop 0)):=Lib.hid (by unfold shapeErr;rw [if_neg hl];rfl)
  clear hl
  have lr' : (p.routes.length:Int)≤1000:=by omega
  have wb:∀ o,Below w.heap.size w (w.alloc o):=fun o => (Below.refl _ _).alloc (Nat.le_refl _) _
  have P1:(w.alloc (.cells #[.slice a p.sends.length c,.slice ar p.routes.length cr,.int .i64 p.pat] 51)).cell? ⟨w.heap.size,1,none⟩=some (.slice ar p.routes.length cr):=by rw [World.cell?_alloc_at _ _ _ _ rfl];rfl
  go_enter Tryz.func134,Tryz.ntmps134
  go_wp2
  go_loopw [5,21] (fun q i wr => ∃ (k:Nat) (right:Bool),k≤t.length∧i=.int .i64 k∧q=.bool right∧outE p.routes true (t.drop 0)=outE p.routes right (t.drop k)∧Below w.heap.size w wr∧wr.cell? ⟨w.heap.size,1,none⟩=some (.slice ar p.routes.length cr)) (fun _ i _ => t.length - (intOf i).toNat)
  case atStart => exact ⟨0,true,Nat.zero_le _,rfl,rfl,rfl,wb _,P1⟩
  case round =>
    obtain ⟨k,right,hk,rfl,rfl,ho,hb,cP⟩:=hrel
    have lP:=cell_ltK cP
    have Ho:=Lib.hid ho
    clear ho P1 wb
    by_cases hkl:k < t.length
    · obtain ⟨b,off,a2,c2,rfl,hbl,c0,hL,_⟩:=ht k hkl
      have c0':=below_c hb hbl c0
      have hLr:=hL.below hb
      have Hs:=Lib.hid (outE_step (rs:=p.routes) (right:=right) hkl)
      have lk:=lt1 t[k] (List.getElem_mem hkl)
      have lk2:=lt2 t[k] (List.getElem_mem hkl)
      clear c0 hL
      obtain ⟨l,hle⟩:∃ l,t[k]=l:=⟨_,rfl⟩
      rw [hle] at c0' hLr Hs lk lk2
      clear hle
      by_cases hll:l.length≠p.routes.length
      · have h1:((l.length:Int) != (p.routes.length:Int))=true:=cne hll
        have Hll:=Lib.hid hll
        clear hll
        go_wp2
        go_ret
        exact ⟨ret_n (by rw [Hl.out,Ho.out,Hs.out,if_pos Hll.out]),hb⟩
      have h1:((l.length:Int) != (p.routes.length:Int))=false:=ceq hll
      have Hll:=Lib.hid (show outE p.routes right (t.drop k)=midE right (l.drop 0) (p.routes.drop 0) (fun r => outE p.routes r (t.drop (k + 1))) by rw [Hs.out,if_neg hll];rfl)
      have hll2:l.length≤p.routes.length∧p.routes.length≤l.length:=by omega
      clear hll Hs
      go_wp2
      obtain ⟨wo,hwo⟩:∃ z:World,z=wr:=⟨_,rfl⟩
      subst hwo
      go_loopw [5,33] (fun q i wr => ∃ (j:Nat) (rg:Bool),j≤l.length∧i=.int .i64 j∧q=.bool rg∧midE right (l.drop 0) (p.routes.drop 0) (fun r => outE p.routes r (t.drop (k + 1)))=midE rg (l.drop j) (p.routes.drop j) (fun r => outE p.routes r (t.drop (k + 1)))∧Below wo.heap.size wo wr) (fun _ i _ => l.length - (intOf i).toNat)
      case atStart => exact ⟨0,right,Nat.zero_le _,rfl,rfl,rfl,Below.refl _ _⟩
      case round =>
        obtain ⟨j,rg,hj,rfl,rfl,hm,hb2⟩:=hrel
        have Hm:=Lib.hid hm
        clear hm
        have cP2:=below_c hb2 lP cP
        have lP2:=cell_ltK cP2
        by_cases hjl:j < l.length
        · obtain ⟨b3,off3,a3,c3,rfl,hbl3,d0,dI,dn⟩:=(hLr.below hb2) j hjl
          obtain ⟨b4,off4,al,ca,rfl,hbl4,e0,e1,eL⟩:=((hr.below hb).below hb2) j (by omega)
          have Hs:=Lib.hid (midE_step (right:=rg) (l:=l) (rs:=p.routes) (f:=fun r => outE p.routes r (t.drop (k + 1))) hjl (by omega:j < p.routes.length))
          have lts:=lk2 l[j] (List.getElem_mem hjl)
          have llj:=ll p.routes[j] (List.getElem_mem (by omega))
          have hjr:j < p.routes.length:=by omega
          obtain ⟨ts,hts⟩:∃ x,l[j]=x:=⟨_,rfl⟩
          obtain ⟨r,hrr⟩:∃ x,p.routes[j]=x:=⟨_,rfl⟩
          rw [hts] at d0 dI Hs lts
          rw [hrr] at e0 e1 eL Hs llj
          clear hts hrr
          obtain ⟨lo,hlo⟩:∃ x,r.lossy=x:=⟨_,rfl⟩
          rw [hlo] at e1
          have Hlo:=Lib.hid hlo
          clear hlo
          by_cases hA:lo=true∧ts.length=0
          · obtain ⟨rfl,h0⟩:=hA
            have hbad:rowBad r ts=false:=by unfold rowBad;rw [Hlo.out,h0];rfl
            have hin:inB ts r.legs=true:=by rw [List.eq_nil_of_length_eq_zero h0];exact inB_nil _
            have Hs2:=Lib.hid (show midE rg (l.drop j) (p.routes.drop j) (fun r => outE p.routes r (t.drop (k + 1)))=midE rg (l.drop (j + 1)) (p.routes.drop (j + 1)) (fun r => outE p.routes r (t.drop (k + 1))) by rw [Hs.out,hbad,hin,Bool.and_true];rfl)
            have h0' : ((ts.length:Int) == 0)=true:=by rw [h0];rfl
            clear hbad hin h0
            go_wp2
            go_roundw
            case rel => exact ⟨j + 1,rg,by omega,by go_num,rfl,by rw [Hm.out,Hs2.out],hb2.trans ((Below.refl _ _).alloc (Nat.le_refl _) _ |>.mono hb2.size)⟩
            case measure => simp [intOf];omega
          by_cases hB:ts.length≠r.legs.length
          · have hbad:rowBad r ts=true:=by
              unfold rowBad
              rw [Hlo.out]
              cases lo
              · simp [hB]
              · simp at hA;simp [hB,hA]
            have h0' : lo=true→((ts.length:Int) == 0)=false:=fun h => by simp at hA ⊢; exact fun e => hA h e
            have h1:((ts.length:Int) != (r.legs.length:Int))=true:=cne hB
            have Hs2:=Lib.hid (show midE rg (l.drop j) (p.routes.drop j) (fun r => outE p.routes r (t.drop (k + 1)))=2 by rw [Hs.out,hbad];rfl)
            clear hbad hA hB
            cases lo
            · clear h0'
              go_wp2
              go_ret
              exact ⟨ret_n (by rw [Hl.out,Ho.out,Hll.out,Hm.out,Hs2.out]),hb.trans (hb2.mono hb.size |>.trans ((Below.refl _ _).alloc (Nat.le_trans hb.size hb2.size) _))⟩
            · have h0:=h0' rfl
              clear h0'
              go_wp2
              go_ret
              exact ⟨ret_n (by rw [Hl.out,Ho.out,Hll.out,Hm.out,Hs2.out]),hb.trans (hb2.mono hb.size |>.trans ((Below.refl _ _).alloc (Nat.le_trans hb.size hb2.size) _))⟩
          have hbad:rowBad r ts=false:=by
            unfold rowBad
            simp at hB
            simp [hB]
          have h0' : lo=true→((ts.length:Int) == 0)=false:=fun h => by simp at hA ⊢; exact fun e => hA h e
          have h1:((ts.length:Int) != (r.legs.length:Int))=false:=ceq hB
          have hlen:ts.length≤r.legs.length∧r.legs.length≤ts.length:=by omega
          have Hs2:=Lib.hid (show midE rg (l.drop j) (p.routes.drop j) (fun r => outE p.routes r (t.drop (k + 1)))=midE (rg && inB (ts.drop 0) (r.legs.drop 0)) (l.drop (j + 1)) (p.routes.drop (j + 1)) (fun r => outE p.routes r (t.drop (k + 1))) by rw [Hs.out,hbad];rfl)
          clear hbad hA hB
          have hlo2:lo=false∨lo=true:=by cases lo <;> simp
          rcases hlo2 with rfl | rfl
          · clear h0'
            go_wp2
            obtain ⟨w3,hw3⟩:∃ z:World,z=wr.alloc (.cells #[.slice al r.legs.length ca,.bool false] 150):=⟨_,rfl⟩
            have q0:w3.cell? ⟨wr.heap.size,0,none⟩=some (.slice al r.legs.length ca):=by rw [hw3,World.cell?_alloc_at _ _ _ _ rfl];rfl
            have b3:Below wr.heap.size wr w3:=by rw [hw3];exact (Below.refl _ _).alloc (Nat.le_refl _) _
            rw [← hw3]
            clear hw3
            obtain ⟨w2,hw2⟩:∃ z:World,z=wr:=⟨_,rfl⟩
            subst hw2
            go_loopw [5,58] (fun q i wr => ∃ (m:Nat) (rq:Bool),m≤ts.length∧i=.int .i64 m∧q=.bool rq∧(rg && inB (ts.drop 0) (r.legs.drop 0))=(rq && inB (ts.drop m) (r.legs.drop m))∧Below w3.heap.size w3 wr) (fun _ i _ => ts.length - (intOf i).toNat)
            case atStart => exact ⟨0,rg,Nat.zero_le _,rfl,rfl,rfl,Below.refl _ _⟩
            case round =>
              obtain ⟨m,rq,hm,rfl,rfl,hi,hb3⟩:=hrel
              have Hi:=Lib.hid hi
              clear hi
              have lq:=cell_ltK q0
              have q1:=below_c hb3 lq q0
              have lq1:=cell_ltK q1
              by_cases hml:m < ts.length
              · obtain ⟨b5,off5,rfl,hbl5,g0⟩:=((dI.below b3).below hb3) m hml
                obtain ⟨b6,off6,ar6,c6,rfl,hbl6,k0,k1,_,_⟩:=((eL.below b3).below hb3) m (by omega)
                have Hst:=Lib.hid (inB_step (ts:=ts) (ls:=r.legs) hml (by omega:m < r.legs.length))
                have hmr:m < r.legs.length:=by omega
                have g0' : wr.cell? ⟨b5,off5 + m,none⟩=some (.int .i64 ts[m]):=g0.trans (by simp [hml])
                clear g0
                obtain ⟨x,hx⟩:∃ x,ts[m]=x:=⟨_,rfl⟩
                obtain ⟨lg,hlg⟩:∃ x,r.legs[m]=x:=⟨_,rfl⟩
                rw [hx] at g0' Hst
                rw [hlg] at k0 k1 Hst
                clear hx hlg
                cases rq
                · go_wp2
                  go_roundw
                  case rel => exact ⟨m + 1,false,by omega,by go_num,rfl,by rw [Hi.out,Bool.false_and,Bool.false_and],hb3⟩
                  case measure => simp [intOf];omega
                · go_wp2_with (go_at_call 147;refine (has_any _ _ _ _).mono ?_;rintro e w1 ⟨rfl,hb1⟩;obtain ⟨hc1,hf1,hz1⟩:=bcell hb1;(try simp at hz1);(try (have hy0:w.heap.size < w1.heap.size:=by omega));(try (have hy1:w.heap.size + 1 < w1.heap.size:=by omega));(try (have hy2:w.heap.size + 2 < w1.heap.size:=by omega)))
                  go_roundw
                  case rel => exact ⟨m + 1,inR x (lg.lo,lg.hi),by omega,by go_num,rfl,by rw [Hi.out,Hst.out,Bool.true_and],hb3.trans (hb1.mono hb3.size)⟩
                  case measure => simp [intOf];omega
              · obtain rfl:m=ts.length:=by omega
                have hi2:=Hi.out
                rw [List.drop_eq_nil_of_le (Nat.le_refl _),inB_nil,Bool.and_true] at hi2
                have Hi2:=Lib.hid hi2
                clear hi2
                have hbb:Below wo.heap.size wo wr:=hb2.trans ((b3.trans (hb3.mono b3.size)).mono hb2.size)
                go_wp2
                go_roundw
                case rel => exact ⟨j + 1,rq,by omega,by go_num,rfl,by rw [Hm.out,Hs2.out,Hi2.out],hbb⟩
                case measure => simp [intOf];omega
          · have h0:=h0' rfl
            clear h0'
            go_wp2
            obtain ⟨w3,hw3⟩:∃ z:World,z=wr.alloc (.cells #[.slice al r.legs.length ca,.bool true] 150):=⟨_,rfl⟩
            have q0:w3.cell? ⟨wr.heap.size,0,none⟩=some (.slice al r.legs.length ca):=by rw [hw3,World.cell?_alloc_at _ _ _ _ rfl];rfl
            have b3:Below wr.heap.size wr w3:=by rw [hw3];exact (Below.refl _ _).alloc (Nat.le_refl _) _
            rw [← hw3]
            clear hw3
            obtain ⟨w2,hw2⟩:∃ z:World,z=wr:=⟨_,rfl⟩
            subst hw2
            go_loopw [5,58] (fun q i wr => ∃ (m:Nat) (rq:Bool),m≤ts.length∧i=.int .i64 m∧q=.bool rq∧(rg && inB (ts.drop 0) (r.legs.drop 0))=(rq && inB (ts.drop m) (r.legs.drop m))∧Below w3.heap.size w3 wr) (fun _ i _ => ts.length - (intOf i).toNat)
            case atStart => exact ⟨0,rg,Nat.zero_le _,rfl,rfl,rfl,Below.refl _ _⟩
            case round =>
              obtain ⟨m,rq,hm,rfl,rfl,hi,hb3⟩:=hrel
              have Hi:=Lib.hid hi
              clear hi
              have lq:=cell_ltK q0
              have q1:=below_c hb3 lq q0
              have lq1:=cell_ltK q1
              by_cases hml:m < ts.length
              · obtain ⟨b5,off5,rfl,hbl5,g0⟩:=((dI.below b3).below hb3) m hml
                obtain ⟨b6,off6,ar6,c6,rfl,hbl6,k0,k1,_,_⟩:=((eL.below b3).below hb3) m (by omega)
                have Hst:=Lib.hid (inB_step (ts:=ts) (ls:=r.legs) hml (by omega:m < r.legs.length))
                have hmr:m < r.legs.length:=by omega
                have g0' : wr.cell? ⟨b5,off5 + m,none⟩=some (.int .i64 ts[m]):=g0.trans (by simp [hml])
                clear g0
                obtain ⟨x,hx⟩:∃ x,ts[m]=x:=⟨_,rfl⟩
                obtain ⟨lg,hlg⟩:∃ x,r.legs[m]=x:=⟨_,rfl⟩
                rw [hx] at g0' Hst
                rw [hlg] at k0 k1 Hst
                clear hx hlg
                cases rq
                · go_wp2
                  go_roundw
                  case rel => exact ⟨m + 1,false,by omega,by go_num,rfl,by rw [Hi.out,Bool.false_and,Bool.false_and],hb3⟩
                  case measure => simp [intOf];omega
                · go_wp2_with (go_at_call 147;refine (has_any _ _ _ _).mono ?_;rintro e w1 ⟨rfl,hb1⟩;obtain ⟨hc1,hf1,hz1⟩:=bcell hb1;(try simp at hz1);(try (have hy0:w.heap.size < w1.heap.size:=by omega));(try (have hy1:w.heap.size + 1 < w1.heap.size:=by omega));(try (have hy2:w.heap.size + 2 < w1.heap.size:=by omega)))
                  go_roundw
                  case rel => exact ⟨m + 1,inR x (lg.lo,lg.hi),by omega,by go_num,rfl,by rw [Hi.out,Hst.out,Bool.true_and],hb3.trans (hb1.mono hb3.size)⟩
                  case measure => simp [intOf];omega
              · obtain rfl:m=ts.length:=by omega
                have hi2:=Hi.out
                rw [List.drop_eq_nil_of_le (Nat.le_refl _),inB_nil,Bool.and_true] at hi2
                have Hi2:=Lib.hid hi2
                clear hi2
                have hbb:Below wo.heap.size wo wr:=hb2.trans ((b3.trans (hb3.mono b3.size)).mono hb2.size)
                go_wp2
                go_roundw
                case rel => exact ⟨j + 1,rq,by omega,by go_num,rfl,by rw [Hm.out,Hs2.out,Hi2.out],hbb⟩
                case measure => simp [intOf];omega
        · obtain rfl:j=l.length:=by omega
          have hm2:=Hm.out
          rw [List.drop_eq_nil_of_le (Nat.le_refl _)] at hm2
          have Hm2:=Lib.hid (show midE right (l.drop 0) (p.routes.drop 0) (fun r => outE p.routes r (t.drop (k + 1)))=outE p.routes rg (t.drop (k + 1)) from hm2)
          clear hm2
          go_wp2
          go_roundw
          case rel => exact ⟨k + 1,rg,by omega,by go_num,rfl,by rw [Ho.out,Hll.out,Hm2.out],hb.trans (hb2.mono hb.size),cP2⟩
          case measure => simp [intOf];omega
    · obtain rfl:k=t.length:=by omega
      cases right
      all_goals
        go_wp2
        go_ret
        exact ⟨ret_n (by rw [Hl.out,Ho.out,List.drop_eq_nil_of_le (Nat.le_refl _)];rfl),hb⟩
end Go.Proofs.YticjeianiahppaaGreatDoor.Cps
namespace Go.Proofs.YticjeianiahppaaGreatDoor.Cps
open Go.RowKit Go.Flow
def flatE (xs:List Ent):List Value:=xs.flatMap fun x => [.int .i64 x.num,.int .i64 x.at_,.bool x.skip]
theorem flatE_get:∀ (xs:List Ent) (k:Nat) (h:k < xs.length),(flatE xs)[k * 3]?=some (.int .i64 xs[k].num)∧(flatE xs)[k * 3 + 1]?=some (.int .i64 xs[k].at_)∧(flatE xs)[k * 3 + 2]?=some (.bool xs[k].skip)
  | x :: xs,0,_ => by simp [flatE]
  | x :: xs,k + 1,h => by
    obtain ⟨a,b,c⟩:=flatE_get xs k (by simpa using h)
    have e:flatE (x :: xs)=.int .i64 x.num :: .int .i64 x.at_ :: .bool x.skip :: flatE xs:=by simp [flatE]
    rw [e,show (k + 1) * 3=k * 3 + 3 by omega]
    exact ⟨a,b,c⟩
theorem flatE_snoc (xs:List Ent) (x:Ent):flatE (xs ++ [x])=flatE xs ++ [.int .i64 x.num,.int .i64 x.at_,.bool x.skip]:=by simp [flatE]
theorem flatE_len (xs:List Ent):(flatE xs).length=xs.length * 3:=by
  induction xs with
  | nil => rfl
  | cons x l ih =>
    have e:flatE (x :: l)=.int .i64 x.num :: .int .i64 x.at_ :: .bool x.skip :: flatE l:=by simp [flatE]
    rw [e];simp only [List.length_cons,ih];omega
theorem _root_.Go.Proofs.YticjeianiahppaaGreatDoor.OwnL.ents {T:TypeId} {base:Nat} {w:World} {a:Option Addr} {c n:Nat} {xs:List Ent} (h:OwnL T 3 base w a c n (flatE xs)):EntsAt w a xs:=fun k hk => by
  rcases h.form with ⟨_,_,_,h4⟩ | ⟨g,rfl,_,hlt,_,_,_,hc⟩
  · have:=(flatE_get xs k hk).1;rw [h4] at this;simp at this
  · obtain ⟨e0,e1,e2⟩:=flatE_get xs k hk
    exact ⟨g,0,rfl,hlt,by rw [Nat.zero_add];exact hc _ _ e0,by rw [Nat.zero_add];exact hc _ _ e1,by rw [Nat.zero_add];exact hc _ _ e2⟩
theorem info_centry:(Tryz.prog.info? 182).map (fun i => (i.zero,i.size,i.bytes))=some (some (.agg #[.int .i64 0,.int .i64 0,.bool false]),3,24):=by kernel_rfl
theorem el_centries:Elem Tryz.prog 52 182 (.agg #[.int .i64 0,.int .i64 0,.bool false]) 3 24:=⟨Tryz.underlying52,info_parts info_centry,rfl,by decide⟩
theorem hourGo_step {s h:Int} {l:List (List Int)} {rs:List Route} {k:Nat} (h1:k < l.length) (h2:k < rs.length):hourGo s h (l.drop k) (rs.drop k)=hourGo s (min h (comeR rs[k] s l[k])) (l.drop (k + 1)) (rs.drop (k + 1)):=by
  rw [List.drop_eq_getElem_cons h1,List.drop_eq_getElem_cons h2];rfl
theorem playGo_len (p:Post):∀ (t:List (List (List Int))) (i:Nat) (b:Int),(playGo p i b t).length=t.length
  | [],_,_ => rfl
  | l :: t,i,b => by simp [playGo,playGo_len p t]
structure RowOk (r:Route) (ts:List Int):Prop where
  len:ts≠[]→ts.length=r.legs.length
  bd:∀ t ∈ ts,0≤t∧t≤100
structure PlayOk (p:Post) (t:List (List (List Int))):Prop where
  n:t.length=p.sends.length
  n4:p.sends.length≤4
  r3:p.routes.length≤3
  hours:PostHours p
  legs:∀ r ∈ p.routes,r.legs.length≤3∧r.legs.all legOk=true∧∀ l ∈ r.legs,l.asl.length≤1000
  len:∀ l ∈ t,l.length=p.routes.length
  rows:∀ l ∈ t,∀ (j:Nat) (h1:j < l.length) (h2:j < p.routes.length),RowOk p.routes[j] l[j]
theorem drop_cons {α:Type} {l r:List α} {e:α} {k:Nat} (h:l.drop k=e :: r):l.drop (k + 1)=r∧l.take (k + 1)=l.take k ++ [e]:=by
  have hk:k < l.length:=by
    rcases Nat.lt_or_ge k l.length with h1 | h1
    · exact h1
    · rw [List.drop_eq_nil_of_le h1] at h;cases h
  rw [List.drop_eq_getElem_cons hk] at h
  obtain ⟨h1,h2⟩:=List.cons.inj h
  exact ⟨h2,by rw [List.take_succ_eq_append_getElem hk,h1]⟩
theorem own_lt {E:TypeId} {size base:Nat} {w:World} {a:Option Addr} {c n:Nat} {xs:List Value} (h:OwnL E size base w a c n xs) {g:Nat} (e:(Value.slice a n c).ownBlock=some g):g < w.heap.size:=by
  rcases h.2 with ⟨h1,_⟩ | ⟨g',cap,cur,h1,_,hgb,_⟩
  · rw [h1] at e;simp [Value.ownBlock] at e
  · rw [h1] at e
    obtain rfl:g'=g:=by simpa [Value.ownBlock] using e
    exact (Array.getElem?_eq_some_iff.1 hgb).1
set_option maxRecDepth 100000 in
set_option maxHeartbeats 4000000 in
theorem play_any (a:Option Addr) (c:Nat) (ar:Option Addr) (cr:Nat) (p:Post) (at_:Option Addr) (ct:Nat) (t:List (List (List Int))) (w:World) (hs:IntsAt w a p.sends) (hr:RoutesAt w ar p.routes) (ht:TruthAt w at_ t) (ok:PlayOk p t) :
    Calls Tryz.prog 135 #[.agg #[.slice a p.sends.length c,.slice ar p.routes.length cr,.int .i64 p.pat],.slice at_ t.length ct] w fun e w' => (∃ ao co,e=.returned (.slice ao t.length co)∧OwnL 182 3 w.heap.size w' ao co t.length (flatE (playF p t)))∧Below w.heap.size w w':=by
  have n1:=ok.n
  have n4:=ok.n4
  have r3:=ok.r3
  have Hn:=Lib.hid n1
  have n5:t.length≤4∧t.length≤p.sends.length:=by omega
  clear n1
  have wb:∀ o,Below w.heap.size w (w.alloc o):=fun o => (Below.refl _ _).alloc (Nat.le_refl _) _
  have P0:Cells (w.alloc (.cells #[.slice a p.sends.length c,.slice ar p.routes.length cr,.int .i64 p.pat] 51)) w.heap.size #[.slice a p.sends.length c,.slice ar p.routes.length cr,.int .i64 p.pat] 51:=Cells.new _ _ _
  go_enter Tryz.func135,Tryz.ntmps135
  go_wp2
  go_loopw [4,5,14] (fun o b i wr => ∃ (k:Nat) (bf:Int) (ao:Option Addr) (co:Nat),k≤t.length∧i=.int .i64 k∧b=.int .i64 bf∧o=.slice ao k co∧OwnL 182 3 (w.heap.size + 1) wr ao co k (flatE ((playF p t).take k))∧(playF p t).drop k=playGo p k bf (t.drop k)∧Below w.heap.size w wr∧Cells wr w.heap.size #[.slice a p.sends.length c,.slice ar p.routes.length cr,.int .i64 p.pat] 51) (fun _ _ i _ => t.length - (intOf i).toNat)
  case atStart => exact ⟨0,0,none,0,Nat.zero_le _,rfl,rfl,rfl,OwnL.nil _ _ _ _,rfl,wb _,P0⟩
  case round =>
    obtain ⟨k,bf,ao,co,hk,rfl,rfl,rfl,hown,hpl,hb,cP⟩:=hrel
    have Hpl:=Lib.hid hpl
    clear hpl P0 wb
    by_cases hkl:k < t.length
    · obtain ⟨b,off,a2,c2,rfl,hbl,c0,hL,_⟩:=ht k hkl
      have c0':=below_c hb hbl c0
      have hLr:=hL.below hb
      have lk:=ok.len t[k] (List.getElem_mem hkl)
      have rows:=ok.rows t[k] (List.getElem_mem hkl)
      clear c0 hL
      have Hdrop:Hid (t.drop k=t[k] :: t.drop (k + 1)):=Lib.hid (List.drop_eq_getElem_cons hkl)
      obtain ⟨l,hle⟩:∃ l,t[k]=l:=⟨_,rfl⟩
      rw [hle] at c0' hLr lk Hdrop
      have rows' : ∀ (j:Nat) (h1:j < l.length) (h2:j < p.routes.length),RowOk p.routes[j] l[j]:=by rw [← hle];exact rows
      clear hle rows
      have ll:l.length≤p.routes.length∧p.routes.length≤l.length:=by omega
      have Hlk:=Lib.hid lk
      clear lk
      have hks:k < p.sends.length:=by omega
      obtain ⟨bs,offs,rfl,hbs,s0⟩:=hs k hks
      have s0' : wr.cell? ⟨bs,offs + k,none⟩=some (.int .i64 p.sends[k]):=(below_c hb hbs s0).trans (by simp [hks])
      have sb:=ok.hours.s _ (List.getElem_mem hks)
      have Hsg:Hid (p.sends.getD k 0=p.sends[k]):=Lib.hid (by simp [hks])
      clear s0
      obtain ⟨s,hse⟩:∃ s,p.sends[k]=s:=⟨_,rfl⟩
      rw [hse] at s0' sb Hsg
      clear hse
      have p0:=cP.cell 0
      have p1:=cP.cell 1
      have lP:=cP.lt
      simp at p0 p1
      go_wp2
      obtain ⟨wo,hwo⟩:∃ z:World,z=wr:=⟨_,rfl⟩
      subst hwo
      go_loopw [8,21] (fun h i wr => ∃ (j:Nat) (g:Int),j≤l.length∧i=.int .i64 j∧h=.int .i64 g∧hourGo s 101 (l.drop 0) (p.routes.drop 0)=hourGo s g (l.drop j) (p.routes.drop j)∧Below wo.heap.size wo wr) (fun _ i _ => l.length - (intOf i).toNat)
      case atStart => exact ⟨0,101,Nat.zero_le _,rfl,rfl,rfl,Below.refl _ _⟩
      case round =>
        obtain ⟨j,g,hj,rfl,rfl,hm,hb2⟩:=hrel
        have Hm:=Lib.hid hm
        clear hm
        have q1:=below_c hb2 lP p1
        have q0:=below_c hb2 lP p0
        have lP2:=cell_ltK q1
        by_cases hjl:j < l.length
        · obtain ⟨b3,off3,a3,c3,rfl,hbl3,d0,dI,dn⟩:=(hLr.below hb2) j hjl
          obtain ⟨b4,off4,al,ca,rfl,hbl4,e0,e1,eL⟩:=((hr.below hb).below hb2) j (by omega)
          have hjr:j < p.routes.length:=by omega
          have ro:=rows' j hjl hjr
          have lo:=ok.legs p.routes[j] (List.getElem_mem hjr)
          have Hst:=Lib.hid (hourGo_step (s:=s) (h:=g) hjl hjr)
          obtain ⟨ts,hts⟩:∃ x,l[j]=x:=⟨_,rfl⟩
          obtain ⟨r,hrr⟩:∃ x,p.routes[j]=x:=⟨_,rfl⟩
          rw [hts] at d0 dI Hst ro
          rw [hrr] at e0 e1 eL Hst ro lo
          clear hts hrr
          have hbs2:=Nat.lt_of_lt_of_le (Nat.lt_of_lt_of_le hbs hb.size) hb2.size
          have s1':=below_c hb2 (Nat.lt_of_lt_of_le hbs hb.size) s0'
          have hcm:∀ W,Below wr.heap.size wr W→Calls Tryz.prog 195 #[.agg #[.slice al r.legs.length ca,.bool r.lossy],.int .i64 s,.slice a3 ts.length c3] W fun e w' => e=.returned (.int .i64 (comeR r s ts))∧Below W.heap.size W w' :=
            fun W b => comes_any al ca r s a3 ts c3 W (eL.below b) (dI.below b) ro.len lo.1 lo.2.1 lo.2.2 (by omega) (by omega) ro.bd
          obtain ⟨x,hx⟩:∃ x,comeR r s ts=x:=⟨_,rfl⟩
          rw [hx] at hcm Hst
          clear hx ro lo dI eL
          have hltI:(j:Int) < (l.length:Int):=by omega
          have hltR:(j:Int) < (p.routes.length:Int):=by omega
          have hkS:(k:Int) < (p.sends.length:Int):=by omega
          go_wp2
          (refine wp_region_seq 14 [] [14,15] 55 [true,true,true,true,true,true,true,true,true,true,true,true,true,false] [LitV wr.heap.size 2 #[.int .i64 g,.int .i64 x] 3] (by kernel_rfl) (by kernel_rfl) rfl (mono_cons (fun v w w' h hb => h.kept hb) mono_nil) ?_;simp only [pickOps,List.filterMap_cons,List.filterMap_nil,List.getElem?_toArray,List.getElem?_cons_succ,List.getElem?_cons_zero];(repeat (refine wpFl_step _ rfl (fun w => (by go_simp;rfl)) ?_));refine wpFl_nil ?_;simp only [maskOps,dummy,Act.put,List.setIfInBounds_toArray,List.set_cons_zero,List.set_cons_succ,List.take_succ_cons,List.take_zero,List.drop_succ_cons,List.drop_zero];(repeat (refine wpQB_step (fun K hK => ?_);go_simp;first | (refine hK _ ?_;clear hK K) | (apply Exists.intro;refine ⟨fun ex => ?_,hK _ ?_⟩;((go_at_call 195;exact hcm _ ex.below));clear hK K)));refine wpQB_nil ?_;simp only [relObl2,under,relEnd,and_true,List.nil_append,List.cons_append])
          refine ⟨?_,?_⟩
          · intro e
            go_simp
            exact ⟨(Below.refl _ _).alloc (Nat.le_refl _) _,e.to.heap.size,rfl,by have:=e.size;omega,Cells.new _ _ _⟩
          · intro e
            rintro v1 ⟨gg,rfl,hg1,hgg⟩
            simp only [Act.put,List.setIfInBounds_toArray,List.set_cons_zero,List.set_cons_succ]
            have heb:=e.below
            obtain ⟨w5,hw5⟩:∃ x:World,x=e.to:=⟨_,rfl⟩
            rw [← hw5] at heb hgg ⊢
            clear hw5 e
            go_wp2_with (go_at_call 155;(with_reducible refine (smallest_any _ g x 2 _ (hgg.ints [g,x] rfl)).mono ?_);rintro e w2 ⟨rfl,rfl⟩)
            go_roundw
            case rel => exact ⟨j + 1,min g x,by omega,by go_num,rfl,by rw [Hm.out,Hst.out],hb2.trans (heb.mono hb2.size)⟩
            case measure => simp [intOf];omega
        · obtain rfl:j=l.length:=by omega
          have hm2:=Hm.out
          rw [List.drop_eq_nil_of_le (Nat.le_refl _)] at hm2
          have Hm2:=Lib.hid (show hourGo s 101 l p.routes=g from hm2)
          clear hm2
          have hbb:=hb.trans (hb2.mono hb.size)
          have own2:=hown.kept hb2
          have cP2:=cP.below hb2
          have hrv:=fun W (b:Below wr.heap.size wr W) => receive_any (some ⟨bs,offs,none⟩) c ar cr p k bf g W (((hs.below hb).below hb2).below b) hks (by omega) (by have:=ok.hours.s _ (List.getElem_mem hks);omega) (by have:=ok.hours.p;omega)
          have q2:wr.cell? ⟨w.heap.size,2,none⟩=some (.int .i64 p.pat):=by have:=cP2.cell 2;simpa using this
          have He:Hid (recvF p k bf (hourGo (p.sends.getD k 0) 101 l p.routes)=recvF p k bf g):=Lib.hid (by rw [Hsg.out,Hm2.out])
          obtain ⟨en,hen⟩:∃ e,recvF p k bf g=e:=⟨_,rfl⟩
          have Hen:Hid (recvF p k bf g=en):=Lib.hid hen
          have hnum:en.num=k:=by rw [← hen];rfl
          rw [hen] at hrv
          clear hen
          obtain ⟨x,hx⟩:∃ x,en.at_=x:=⟨_,rfl⟩
          obtain ⟨y,hy⟩:∃ y,en.skip=y:=⟨_,rfl⟩
          rw [hx,hy] at hrv
          have Hxy:Hid (en=⟨k,x,y⟩):=Lib.hid (by rw [← hnum,← hx,← hy])
          clear hx hy hnum
          go_wp2_with (go_at_call 161;(with_reducible refine (hrv _ (by (repeat (first | exact Below.refl _ _ | refine Below.alloc ?_ (by first | omega | (simp;done) | (simp;omega)) _ | refine Below.drew ?_ | refine Below.setCell ?_ (by first | omega | (simp;done) | (simp;omega)) _ | refine Below.trans ?_ (Below.mono (by assumption) (by first | omega | (simp;done) | (simp;omega))))))).mono ?_);rintro e w6 ⟨rfl,hb6⟩)
          obtain ⟨w7,hw7⟩:∃ z:World,z=w6.alloc (.cells #[.int .i64 k,.int .i64 x,.bool y] 182):=⟨_,rfl⟩
          have b7:Below wr.heap.size wr w7:=by rw [hw7];exact (hb6.alloc hb6.size _)
          obtain ⟨B,hB⟩:∃ B,w6.heap.size=B:=⟨_,rfl⟩
          have c7:Cells w7 B #[.int .i64 k,.int .i64 x,.bool y] 182:=by rw [hw7];exact Cells.new' _ _ _ _ hB.symm
          have own7:OwnL 182 3 (w.heap.size + 1) w7 ao co k (flatE ((playF p t).take k)):=own2.kept b7
          have hne:(Value.slice ao k co).ownBlock≠some B:=fun e => by
            have:=own_lt (own2.kept hb6) e
            omega
          have cP7:=cP2.below b7
          have lw7:w.heap.size + 1≤w7.heap.size:=by have:=cP7.lt;omega
          rw [← hw7,hB]
          clear hw7 hB hb6 own2 cP2 cP p0 p1 q0 q1 q2 hown
          have z0:=c7.cell 0
          have z1:=c7.cell 1
          have z2:=c7.cell 2
          simp at z0 z1 z2
          have lB:=c7.lt
          obtain ⟨i0,hi0,hz0,hz1,hz2⟩:=el_centries.info
          go_region_held3 (fun w' => w'.cell? ⟨B,0,none⟩=some (.int .i64 k)∧w'.cell? ⟨B,1,none⟩=some (.int .i64 x)∧w'.cell? ⟨B,2,none⟩=some (.bool y))
            (first
              | go_keep
              | (go_split_ands
                 refine ⟨?_,?_,?_⟩
                 · (rw [hgrow.cell_far _ (by simp;omega) (Ne.symm hne)];assumption)
                 · (rw [hgrow.cell_far _ (by simp;omega) (Ne.symm hne)];assumption)
                 · (rw [hgrow.cell_far _ (by simp;omega) (Ne.symm hne)];assumption)))
            ((refine step_append_lies _ (by rfl) _ _ _ (by rfl) (w.heap.size + 1) 182 i0 _ 3 24 Tryz.underlying52 hi0 hz0 hz1 hz2 rfl (by omega) (.slice ao k co) k _ (by rfl) ((own7.alloc _).drew) ⟨w7.heap.size,0,none⟩ 1 1 [.int .i64 k,.int .i64 x,.bool y] (by rfl) (by rfl) (World.news_of_block (cs:=#[.int .i64 k,.int .i64 x,.bool y]) (t:=182) (fr:=(0,0)) (heap_alloc_new w7 _)) (by simp [Value.oneCell']) (by omega) (by unfold maxLen;omega) (by omega) (by simp;omega) (w7.heap.size + 1) (by simp) ?_;intro gg cap w1 hown1 hgrow hat hlt))
          have hbg:=below_of_grown ((own7.alloc _).drew) (by simp;omega) hgrow
          have hw1:Below (w.heap.size + 1) w7 w1:=(((Below.refl _ w7).alloc lw7 _).drew).trans hbg
          have cP1:Cells w1 w.heap.size #[.slice (some ⟨bs,offs,none⟩) p.sends.length c,.slice ar p.routes.length cr,.int .i64 p.pat] 51:=(hw1.block w.heap.size (by omega)).trans cP7
          have hcons:(playF p t).drop k=⟨k,x,y⟩ :: playGo p (k + 1) x (t.drop (k + 1)):=by
            rw [Hpl.out,Hdrop.out]
            simp only [playGo]
            rw [He.out,Hen.out,Hxy.out]
          have Hdc:=Lib.hid (drop_cons hcons)
          clear hcons hgrow hat hbg
          go_wp2
          go_roundw
          case rel => exact ⟨k + 1,x,_,_,by omega,by go_num,rfl,rfl,by rw [Hdc.out.2,flatE_snoc];exact hown1,Hdc.out.1,(hbb.trans (b7.mono hbb.size)).trans (hw1.mono (by omega)),cP1⟩
          case measure => simp [intOf];omega
    · obtain rfl:k=t.length:=by omega
      go_wp2
      go_ret
      refine ⟨⟨_,_,rfl,?_⟩,hb⟩
      rw [List.take_of_length_le (by unfold playF;rw [playGo_len];exact Nat.le_refl _)] at hown
      exact hown.base_le (by omega)
end Go.Proofs.YticjeianiahppaaGreatDoor.Cps
namespace Go.Proofs.YticjeianiahppaaGreatDoor.Cps
open Go.RowKit Go.Flow
theorem midE_no2:∀ (l:List (List Int)) (rs:List Route) (right:Bool) (f:Bool→Int),midE right l rs f=2∨(∃ b,midE right l rs f=f b∧(b=true→right=true∧∀ (j:Nat) (h1:j < l.length) (h2:j < rs.length),inB l[j] rs[j].legs=true)∧∀ (j:Nat) (h1:j < l.length) (h2:j < rs.length),rowBad rs[j] l[j]=false)
  | [],_,right,f => .inr ⟨right,by simp [midE],fun h => ⟨h,fun j h1 => by simp at h1⟩,fun j h1 => by simp at h1⟩
  | _ :: _,[],right,f => .inr ⟨right,by simp [midE],fun h => ⟨h,fun j h1 h2 => by simp at h2⟩,fun j h1 h2 => by simp at h2⟩
  | ts :: l,r :: rs,right,f => by
    simp only [midE]
    cases hb:rowBad r ts
    · simp only [Bool.false_eq_true,if_false]
      rcases midE_no2 l rs (right && inB ts r.legs) f with h | ⟨b,h1,h2,h3⟩
      · exact .inl h
      · refine .inr ⟨b,h1,fun hbt => ?_,fun j h1 h2 => ?_⟩
        · obtain ⟨ha,hj⟩:=h2 hbt
          simp only [Bool.and_eq_true] at ha
          refine ⟨ha.1,fun j h1 h2 => ?_⟩
          cases j with
          | zero => exact ha.2
          | succ j => exact hj j (by simpa using h1) (by simpa using h2)
        · cases j with
          | zero => exact hb
          | succ j => exact h3 j (by simpa using h1) (by simpa using h2)
    · exact .inl (by simp)
theorem outE_ok {rs:List Route}:∀ (t:List (List (List Int))) (right:Bool),outE rs right t=0→right=true∧∀ l ∈ t,l.length=rs.length∧∀ (j:Nat) (h1:j < l.length) (h2:j < rs.length),rowBad rs[j] l[j]=false∧inB l[j] rs[j].legs=true
  | [],right,h => by
    cases right
    · simp [outE] at h
    · exact ⟨rfl,fun l hl => by simp at hl⟩
  | l :: t,right,h => by
    simp only [outE] at h
    split at h
    · cases h
    · rename_i hlen
      have hlen' : l.length=rs.length:=by omega
      rcases midE_no2 l rs right (fun r => outE rs r t) with h2 | ⟨b,h1,h2,h3⟩
      · rw [h2] at h;cases h
      · rw [h1] at h
        obtain ⟨hb,ht⟩:=outE_ok t b h
        obtain ⟨hr,hin⟩:=h2 hb
        refine ⟨hr,fun l' hl' => ?_⟩
        rcases List.mem_cons.1 hl' with rfl | hl'
        · exact ⟨hlen',fun j a b => ⟨h3 j a b,hin j a b⟩⟩
        · exact ht l' hl'
theorem inB_bd:∀ (ts:List Int) (ls:List Leg),ts.length=ls.length→ls.all legOk=true→inB ts ls=true→∀ t ∈ ts,0≤t∧t≤100
  | [],_,_,_,_ => fun t ht => by simp at ht
  | x :: ts,[],hl,_,_ => by simp at hl
  | x :: ts,l :: ls,hl,ho,hi => by
    simp only [inB,Bool.and_eq_true,List.all_cons] at hi ho
    intro t ht
    rcases List.mem_cons.1 ht with rfl | ht
    · have h1:=inR_iff.1 hi.1
      have h2:=ho.1
      simp only [legOk,uptoB,Bool.and_eq_true,decide_eq_true_eq] at h2
      omega
    · exact inB_bd ts ls (by simpa using hl) ho.2 hi.2 t ht
theorem playOk_of {p:Post} {t:List (List (List Int))} (h:postErr p=0) (hs:shapeErr p t=0):PlayOk p t:=by
  obtain ⟨h1,h2,h3,_,_,_,_,_,h9⟩:=postErr_ok h
  unfold shapeErr at hs
  split at hs
  · cases hs
  · rename_i hl
    obtain ⟨_,hall⟩:=outE_ok t true hs
    refine ⟨by omega,h1,h2,post_hours h,post_legs h,fun l hl => (hall l hl).1,fun l hl j a b => ?_⟩
    obtain ⟨hb,hi⟩:=(hall l hl).2 j a b
    have hlen:l[j]≠[]→l[j].length=p.routes[j].legs.length:=fun hne => by
      have:0 < l[j].length:=List.length_pos_iff.2 hne
      unfold rowBad at hb
      have h0:decide (l[j].length=0)=false:=by simp;exact hne
      rw [h0,Bool.and_false] at hb
      simpa using hb
    refine ⟨hlen,?_⟩
    by_cases hne:l[j]=[]
    · intro t ht;rw [hne] at ht;simp at ht
    · exact inB_bd _ _ (hlen hne) (post_legs h _ (List.getElem_mem b)).2.1 hi
end Go.Proofs.YticjeianiahppaaGreatDoor.Cps
namespace Go.Proofs.YticjeianiahppaaGreatDoor.Cps
open Go.RowKit Go.Flow Go.Shelf
theorem _root_.Go.Proofs.YticjeianiahppaaGreatDoor.SrcAt.ents {w:World} {a:Option Addr} {xs:List Ent} (h:EntsAt w a xs):SrcAt w a (flatE xs):=fun j u hu => by
  have hj:j < xs.length * 3:=by rw [← flatE_len];exact (List.getElem?_eq_some_iff.1 hu).1
  obtain ⟨b,off,ha,_,h0,h1,h2⟩:=h (j / 3) (by omega)
  obtain ⟨e0,e1,e2⟩:=flatE_get xs (j / 3) (by omega)
  refine ⟨b,off,ha,?_⟩
  rcases (show j=j / 3 * 3∨j=j / 3 * 3 + 1∨j=j / 3 * 3 + 2 by omega) with e | e | e
  · rw [e] at hu ⊢; rw [e0] at hu;rw [← hu];exact h0
  · rw [e] at hu ⊢; rw [e1] at hu;rw [← hu];rw [← Nat.add_assoc];exact h1
  · rw [e] at hu ⊢; rw [e2] at hu;rw [← hu];rw [← Nat.add_assoc];exact h2
theorem flatE_one (xs:List Ent):∀ u ∈ flatE xs,u.oneCell'=true:=fun u hu => by
  unfold flatE at hu
  obtain ⟨x,_,hx⟩:=List.mem_flatMap.1 hu
  simp at hx
  rcases hx with rfl | rfl | rfl <;> rfl
set_option maxRecDepth 100000 in
set_option maxHeartbeats 400000 in
theorem cloneE_any (a:Option Addr) (xs:List Ent) (c:Nat) (w:World) (hx:EntsAt w a xs) (hn:a=none→xs.length=0∧c=0) (hl:xs.length≤1000000) :
    Calls Tryz.prog 133 #[.slice a xs.length c] w fun e w' => ∃ a' c',e=.returned (.slice a' xs.length c')∧OwnL 182 3 w.heap.size w' a' c' xs.length (flatE xs)∧Below w.heap.size w w':=by
  have hnil:∀ w,(binOp .eql 52 (.slice a xs.length c) (.slice none 0 0)).run Tryz.prog w=.ok (.bool a.isNone) w:=fun w => Lib.run_eql_slice_nil w _ _ _ _ _ _ _ Tryz.underlying52
  cases a with
  | none =>
    obtain ⟨hx0,rfl⟩:=hn rfl
    obtain rfl:=List.eq_nil_of_length_eq_zero hx0
    have hnil:∀ w,(binOp .eql 52 (.slice none 0 0) (.slice none 0 0)).run Tryz.prog w=.ok (.bool true) w:=fun w => Lib.run_eql_slice_nil w _ _ _ _ _ _ _ Tryz.underlying52
    show Calls Tryz.prog 133 #[.slice none 0 0] w _
    go_enter Tryz.func133,Tryz.ntmps133
    go_wp2
    go_ret
    exact ⟨none,0,rfl,OwnL.nil _ _ _ _,Below.refl _ _⟩
  | some ad =>
    simp only [Option.isNone_some] at hnil
    go_enter Tryz.func133,Tryz.ntmps133
    go_wp2_with (at_builtin;refine wpList_app el_centries rfl _ _ rfl w.heap.size _ _ _ _ rfl (OwnL.lit #[] (Nat.le_refl _) (by decide) rfl) (some ad) xs.length c _ rfl hn (flatE_len xs) (SrcAt.ents (hx.below (by (repeat (first | exact Below.refl _ _ | refine Below.alloc ?_ (by first | omega | (simp;done) | (simp;omega)) _ | refine Below.drew ?_ | refine Below.setCell ?_ (by first | omega | (simp;done) | (simp;omega)) _ | refine Below.trans ?_ (Below.mono (by assumption) (by first | omega | (simp;done) | (simp;omega)))))))) (flatE_one xs) (by unfold maxLen;omega) (by omega) (by simp) ?_)
    intro a' c' w' h1 h2
    go_wp2
    go_ret
    exact ⟨a',c',by simp,by simpa using h1,((Below.refl _ _).alloc (Nat.le_refl _) _).trans h2⟩
end Go.Proofs.YticjeianiahppaaGreatDoor.Cps
namespace Go.Proofs.YticjeianiahppaaGreatDoor.Cps
open Go.RowKit Go.Flow Go.Shelf
structure Gr (bf:Nat) (W X:World):Prop where
  g:W.grownBy X (some bf)
  f:X.frozen? ⟨bf,0,none⟩=false
  v:∃ v,X.cell? ⟨bf,0,none⟩=some v
section
variable {bf:Nat} {W X Y:World}
theorem Gr.low (h:Gr bf W X) (hb:Below W.heap.size X Y) (lf:bf < W.heap.size):Gr bf W Y:=by
  obtain ⟨v,hv⟩:=h.v
  refine ⟨⟨hb.os.trans h.g.os,hb.tape.trans h.g.tape,hb.output.trans h.g.output,Nat.le_trans h.g.size hb.size,fun k hk hne => (hb.block k hk).trans (h.g.block k hk hne)⟩,?_,v,?_⟩
  · rw [hb.frozen (p:=⟨bf,0,none⟩) lf];exact h.f
  · exact (hb.cell (p:=⟨bf,0,none⟩) lf).trans hv
theorem Gr.below (h:Gr bf W X) (hb:Below X.heap.size X Y) (lf:bf < W.heap.size):Gr bf W Y:=h.low (hb.mono h.g.size) lf
theorem Gr.drew (h:Gr bf W X) (lf:bf < W.heap.size):Gr bf W X.drew:=h.below (Below.refl _ _).drew lf
theorem Gr.alloc (h:Gr bf W X) (lf:bf < W.heap.size) (o:Obj):Gr bf W (X.alloc o):=h.below ((Below.refl _ _).alloc (Nat.le_refl _) o) lf
theorem Gr.trans (h:Gr bf W X) (k:Gr bf X Y):Gr bf W Y:=⟨h.g.trans k.g,k.f,k.v⟩
theorem Gr.cell (h:Gr bf W X) {b o:Nat} {v:Value} (hne:b≠bf) (hc:W.cell? ⟨b,o,none⟩=some v):X.cell? ⟨b,o,none⟩=some v:=h.g.cell hc (fun e => hne (Option.some.inj e))
theorem Gr.toBelow (h:Gr bf W X) {B0:Nat} (hb:B0≤bf) (hs:B0≤W.heap.size):Below B0 W X :=
  ⟨h.g.os,h.g.tape,h.g.output,h.g.size,fun k hk => h.g.block k (by omega) (fun e => by have:=Option.some.inj e;omega)⟩
theorem Gr.lt (h:Gr bf W W):bf < W.heap.size:=by obtain ⟨v,hv⟩:=h.v;exact cell_ltK hv
theorem Gr.ints (h:Gr bf W X) {a:Option Addr} {xs:List Int} (hx:IntsAt W a xs) (hn:∀ off,a≠some ⟨bf,off,none⟩):IntsAt X a xs:=fun k hk =>
  let ⟨b,off,ha,hlt,hc⟩:=hx k hk
  ⟨b,off,ha,Nat.lt_of_lt_of_le hlt h.g.size,h.cell (fun e => hn off (by rw [ha,e])) hc⟩
theorem Gr.ents (h:Gr bf W X) {a:Option Addr} {xs:List Ent} (hx:EntsAt W a xs) (hn:∀ off,a≠some ⟨bf,off,none⟩):EntsAt X a xs:=fun k hk =>
  let ⟨b,off,ha,hlt,h0,h1,h2⟩:=hx k hk
  have hne:b≠bf:=fun e => hn off (by rw [ha,e])
  ⟨b,off,ha,Nat.lt_of_lt_of_le hlt h.g.size,h.cell hne h0,h.cell hne h1,h.cell hne h2⟩
theorem Gr.store (h:Gr bf W X) (u:Value):Gr bf W (X.setCell ⟨bf,0,none⟩ u):=by
  obtain ⟨v,hv⟩:=h.v
  refine ⟨⟨h.g.os,h.g.tape,h.g.output,by simpa using h.g.size,fun k hk hne => (Below.heap_setCell X ⟨bf,0,none⟩ u k (fun e => hne (by rw [e]))).trans (h.g.block k hk hne)⟩,?_,u,?_⟩
  · rw [World.frozen?_setCell];exact h.f
  · exact World.cell?_setCell_same _ _ _ hv
end
section
variable {P:Program} {ops:Array Oper} {Q:Exit→Act→World→Prop} {md:Region.Mode} {S:World→Prop} {i:Nat} {oi:Oper} {v:Value} {fuel:Nat} {listed:Array Bool} {a:Act} {w:World}
theorem takeL (hi:ops.toList[i]?=some oi) (hs:Region.noSelect ops=true) (hf:Region.free md ops listed i=true) (hr:(Region.ready md ops listed).contains i=true)
    (hQ:∀ c a w,Q (.panic c) (a.put oi.dst v) w→Q (.panic c) a w) (hw:Region.wanted oi (yielded ops a.tmps)=true) (hy:∀ w,S w→(execOp a.eval oi).run P w=.ok (.value v) w) (hS:S w)
    (h:wpAnyH P md ops Q S fuel (listed.setIfInBounds i true) (a.put oi.dst v) w):wpAnyH P md ops Q S (fuel + 1) listed a w :=
  wpAnyH_take (by simpa using hi) hs hf hr hQ (Or.inl ⟨hw,hy⟩) hS h
theorem skipL (hi:ops.toList[i]?=some oi) (hs:Region.noSelect ops=true) (hf:Region.free md ops listed i=true) (hr:(Region.ready md ops listed).contains i=true)
    (hQ:∀ c a w,Q (.panic c) (a.put oi.dst undef) w→Q (.panic c) a w) (hw:Region.wanted oi (yielded ops a.tmps)=false) (hS:S w)
    (h:wpAnyH P md ops Q S fuel (listed.setIfInBounds i true) (a.put oi.dst undef) w):wpAnyH P md ops Q S (fuel + 1) listed a w :=
  wpAnyH_take (by simpa using hi) hs hf hr hQ (Or.inr ⟨hw,rfl⟩) hS h
theorem consL {rs:List Nat} (hi:ops.toList[i]?=some oi)
    (h:∀ K' : Act→World→Prop,Shut (∀ a w,S w→(S w→wpAnyH P md ops Q S fuel (listed.setIfInBounds i true) a w)→K' a w)→if Region.wanted oi (yielded ops a.tmps)=true then Oper.wp P oi a w K' Q else K' (a.put oi.dst undef) w)
    (hs:AllReadyH P md ops Q S fuel listed a w rs):AllReadyH P md ops Q S fuel listed a w (i :: rs):=AllReadyH.cons (by simpa using hi) h hs
end
def leaveR (p:Post) (l:List Ent):Nat→Nat→List Int→List Ent→Nat→Option (List Int)
  | 0,_,out,kept,m => if 0 < m then none else if (searchF p kept).isSome then some out else none
  | r + 1,i,out,kept,m => if r + 1 < m then none else
    match (if 0 < m then leaveR p l r (i + 1) (out ++ [(i:Int)]) kept (m - 1) else none) with
    | some z => some z
    | none => leaveR p l r (i + 1) out (kept ++ [l.getD i ⟨0,0,false⟩]) m
def LeavePost (bf:Nat) (W:World):Option (List Int)→Ending→World→Prop
  | none,e,w' => e=.returned (.bool false)∧Gr bf W w'
  | some z,e,w' => e=.returned (.bool true)∧Gr bf W w'∧∃ a c,w'.cell? ⟨bf,0,none⟩=some (.slice a z.length c)∧IntsAt w' a z
set_option maxRecDepth 100000 in
set_option maxHeartbeats 8000000 in
theorem leave0_any (p:Post) (l:List Ent) (a:Option Addr) (c:Nat) (ar:Option Addr) (cr Bw:Nat) (al:Option Addr) (cl bw bf bl bn:Nat) (W0:World) (S0:Sta p l a c ar cr Bw al cl bw bl W0) (h0:postErr p=0) (ll:l.length≤1000)
    (hbf:W0.heap.size≤bf) (hnf:bn≠bf) :
    ∀ (r i m:Nat) (out:List Int) (ao:Option Addr) (co:Nat) (kept:List Ent) (ak:Option Addr) (ck:Nat) (W:World),i + r=l.length→m≤1000→out.length≤i→kept.length≤i→IntsAt W ao out→(ao=none→out=[]∧co=0)→(∀ off,ao≠some ⟨bf,off,none⟩) →
      EntsAt W ak kept→(ak=none→kept.length=0∧ck=0)→(∀ off,ak≠some ⟨bf,off,none⟩)→Below W0.heap.size W0 W→W.cell? ⟨bn,0,none⟩=some (.func (.func 131) #[] #[.pointer (some ⟨bl,0,none⟩),.pointer (some ⟨bf,0,none⟩),.pointer (some ⟨bw,0,none⟩),.pointer (some ⟨bn,0,none⟩)])→Gr bf W W →
      m=0→(leaveR p l r i out kept m).isSome=true →
    Calls Tryz.prog 131 #[.slice ao out.length co,.slice ak kept.length ck,.int .i64 i,.int .i64 m,.pointer (some ⟨bl,0,none⟩),.pointer (some ⟨bf,0,none⟩),.pointer (some ⟨bw,0,none⟩),.pointer (some ⟨bn,0,none⟩)] W
      (LeavePost bf W (leaveR p l r i out kept m)):=by
  intro r
  induction r with
  | zero =>
    intro i m out ao co kept ak ck W hir hm hol hkl ha han haf he hen hef hb kn g0 hm00 hsome
    have kl:=(hb.cell (p:=⟨bl,0,none⟩) (cell_lt S0.kl)).trans S0.kl
    have kw:=(hb.cell (p:=⟨bw,0,none⟩) (cell_lt S0.kw)).trans S0.kw
    have l1:=cell_ltK kl
    have l2:=cell_ltK kw
    have lf:=g0.lt
    by_cases h0m:0 < m
    · exact absurd h0m (by omega)
    · obtain rfl:m=0:=by omega
      have hI:¬ ((l.length:Int) - (i:Int)) < (0:Int):=by omega
      have hI2:((i:Int) == (l.length:Int))=true:=by simp;omega
      have hw:IntKind.i64.wrap ((l.length:Int) - (i:Int))=(l.length:Int) - (i:Int):=IntWalk.i64_in _ (by omega)
      obtain ⟨v,hv⟩:=g0.v
      have ff:=g0.f
      have G1:=g0.store (.slice ao out.length co)
      have hsr:∀ X,X=W.setCell ⟨bf,0,none⟩ (.slice ao out.length co)→_:=fun X e => search_any p kept a c ar cr Bw ak ck X (by rw [e];exact S0.hw.below (hb.trans (G1.toBelow hbf hb.size))) (by rw [e];exact S0.hs.below (hb.trans (G1.toBelow hbf hb.size))) (by rw [e];exact S0.hr.below (hb.trans (G1.toBelow hbf hb.size))) (by rw [e];exact G1.ents he hef) h0 (by omega)
      have nw:bw≠bf:=by have:bw < W0.heap.size:=cell_lt S0.kw;omega
      have kw1:=G1.cell nw kw
      have hfo:=World.cell?_setCell_same W ⟨bf,0,none⟩ (.slice ao out.length co) hv
      have ha1:=G1.ints ha haf
      have hR:Hid (leaveR p l 0 i out kept 0=if (searchF p kept).isSome then some out else none):=Lib.hid (by simp [leaveR])
      obtain ⟨o,ho⟩:∃ o,leaveR p l 0 i out kept 0=o:=⟨_,rfl⟩
      rw [ho] at hR ⊢
      obtain ⟨s,hs⟩:∃ s,searchF p kept=s:=⟨_,rfl⟩
      rw [hs] at hsr hR
      clear ho hs hir
      have kq:(W.setCell ⟨bf,0,none⟩ (.slice ao out.length co)).heap.size=W.heap.size:=by simp
      go_enter Tryz.func131,Tryz.ntmps131
      cases s with
      | none =>
        obtain rfl:o=none:=hR.out
        go_wp2_with (go_at_call 95;(with_reducible refine (hsr _ rfl).mono ?_);rintro e w1 ⟨rfl,hb1⟩)
        go_ret
        exact ⟨rfl,G1.below hb1 lf⟩
      | some z =>
        obtain rfl:o=some out:=hR.out
        go_wp2_with (go_at_call 95;(with_reducible refine (hsr _ rfl).mono ?_);rintro e w1 ⟨⟨a5,c5,rfl,_⟩,hb1⟩)
        go_ret
        exact ⟨rfl,G1.below hb1 lf,ao,co,below_cell hb1 hfo,ha1.below hb1⟩
  | succ r ih =>
    intro i m out ao co kept ak ck W hir hm hol hkl ha han haf he hen hef hb kn g0 hm00 hsome
    have kl:=(hb.cell (p:=⟨bl,0,none⟩) (cell_lt S0.kl)).trans S0.kl
    have kw:=(hb.cell (p:=⟨bw,0,none⟩) (cell_lt S0.kw)).trans S0.kw
    have l1:=cell_ltK kl
    have l2:=cell_ltK kw
    have lf:=g0.lt
    by_cases h0m:r + 1 < m
    · exact absurd h0m (by omega)
    · have hil:i < l.length:=by omega
      obtain ⟨be,offe,rfl,hbe,e0,e1,e2⟩:=S0.he i hil
      have hR:Hid (leaveR p l (r + 1) i out kept m=match (if 0 < m then leaveR p l r (i + 1) (out ++ [(i:Int)]) kept (m - 1) else none) with | some z => some z | none => leaveR p l r (i + 1) out (kept ++ [l[i]]) m):=Lib.hid (by rw [leaveR,if_neg h0m,show l.getD i ⟨0,0,false⟩=l[i] by simp [hil]])
      have hs2:(leaveR p l r (i + 1) out (kept ++ [l[i]]) m).isSome=true:=by
        have h:=hsome
        rw [hR.out,if_neg (by omega)] at h
        exact h
      clear hsome
      obtain ⟨en,hen2⟩:∃ e,l[i]=e:=⟨_,rfl⟩
      rw [hen2] at e0 e1 e2 hR hs2
      clear hen2
      have e0:=(hb.cell (p:=⟨be,_,none⟩) hbe).trans e0
      have e1:=(hb.cell (p:=⟨be,_,none⟩) hbe).trans e1
      have e2:=(hb.cell (p:=⟨be,_,none⟩) hbe).trans e2
      have nl:bl≠bf:=by have:bl < W0.heap.size:=cell_lt S0.kl;omega
      have nE:be≠bf:=by omega
      have lbe:=cell_ltK e0
      have ln:=cell_ltK kn
      have hkeep:∀ X,Gr bf W X→X.cell? ⟨bn,0,none⟩=some (.func (.func 131) #[] #[.pointer (some ⟨bl,0,none⟩),.pointer (some ⟨bf,0,none⟩),.pointer (some ⟨bw,0,none⟩),.pointer (some ⟨bn,0,none⟩)])∧X.cell? ⟨bl,0,none⟩=some (.slice (some ⟨be,offe,none⟩) l.length cl)∧X.cell? ⟨be,offe + i * 3,none⟩=some (.int .i64 en.num)∧X.cell? ⟨be,offe + i * 3 + 1,none⟩=some (.int .i64 en.at_)∧X.cell? ⟨be,offe + i * 3 + 2,none⟩=some (.bool en.skip) :=
        fun X g => ⟨g.cell hnf kn,g.cell nl kl,g.cell nE e0,g.cell nE e1,g.cell nE e2⟩
      have hcl:=fun X (g:Gr bf W X) => clone_any ao out co X (g.ints ha haf) han (by omega)
      have hcE:=fun X (g:Gr bf W X) => cloneE_any ak kept ck X (g.ents he hef) hen (by omega)
      obtain ⟨i1,hi1⟩:∃ z:Int,((i + 1:Nat):Int)=z:=⟨_,rfl⟩
      have hL2:∀ X,Gr bf W X→∀ g' c',OwnL 182 3 W.heap.size X (some ⟨g',0,none⟩) c' (kept.length + 1) (flatE kept ++ [.int .i64 en.num,.int .i64 en.at_,.bool en.skip]) →
          Calls Tryz.prog 131 #[.slice ao out.length co,.slice (some ⟨g',0,none⟩) (kept.length + 1) c',.int .i64 i1,.int .i64 m,.pointer (some ⟨bl,0,none⟩),.pointer (some ⟨bf,0,none⟩),.pointer (some ⟨bw,0,none⟩),.pointer (some ⟨bn,0,none⟩)] X (LeavePost bf X (leaveR p l r (i + 1) out (kept ++ [en]) m)):=by
        intro X g g' c' hown
        have hown2:OwnL 182 3 W.heap.size X (some ⟨g',0,none⟩) c' (kept.length + 1) (flatE (kept ++ [en])):=by rw [flatE_snoc];exact hown
        have hg' : W.heap.size≤g':=by
          rcases hown.form with ⟨h,_⟩ | ⟨g2,h,h2,_⟩
          · cases h
          · simp at h;omega
        have:=ih (i + 1) m out ao co (kept ++ [en]) (some ⟨g',0,none⟩) c' X (by omega) hm (by omega) (by simp;omega) (g.ints ha haf) han haf hown2.ents (fun h => by cases h) (fun off h => by simp at h <;> omega) (hb.trans (g.toBelow hbf hb.size)) (g.cell hnf kn) ⟨World.grownBy.refl _ _,g.f,g.v⟩ hm00 hs2
        rw [hi1,show (kept ++ [en]).length=kept.length + 1 by simp] at this
        exact this
      obtain ⟨mm,hmm⟩:∃ z:Int,(m:Int)=z:=⟨_,rfl⟩
      rw [hmm] at hL2 ⊢
      have hI:¬ ((l.length:Int) - (i:Int)) < mm:=by omega
      have hw:IntKind.i64.wrap ((l.length:Int) - (i:Int))=(l.length:Int) - (i:Int):=IntWalk.i64_in _ (by omega)
      have hI2:((i:Int) == (l.length:Int))=false:=by simp;omega
      have hwi:IntKind.i64.wrap ((i:Int) + 1)=i1:=by rw [IntWalk.i64_in _ (by omega),← hi1];rfl
      have hilI:(i:Int) < (l.length:Int):=by omega
      have elI:=elInt
      have elE:=el_centries
      obtain ⟨oo,hoo⟩:∃ o,leaveR p l (r + 1) i out kept m=o:=⟨_,rfl⟩
      rw [hoo] at hR ⊢
      obtain ⟨o2,ho2⟩:∃ o,leaveR p l r (i + 1) out (kept ++ [en]) m=o:=⟨_,rfl⟩
      rw [ho2] at hR hL2 hs2
      have hol2:out.length≤1000:=by omega
      have hkl2:kept.length≤1000:=by omega
      clear hoo ho2 hi1 ih hir ha haf he hef han hen kw l2 hol hkl
      · obtain rfl:mm=0:=by omega
        clear hmm
        rw [if_neg (by omega)] at hR
        obtain rfl:oo=o2:=hR.out
        clear hR h0m
        go_enter Tryz.func131,Tryz.ntmps131
        cases oo with
        | none => cases hs2
        | some z =>
          go_wp2
          refine wp_region_noPanic ?_
          refine wp_region_held_drew (S:=(fun w' => w'.cell? ⟨bn,0,none⟩=some (.func (.func 131) #[] #[.pointer (some ⟨bl,0,none⟩),.pointer (some ⟨bf,0,none⟩),.pointer (some ⟨bw,0,none⟩),.pointer (some ⟨bn,0,none⟩)])∧w'.cell? ⟨bl,0,none⟩=some (.slice (some ⟨be,offe,none⟩) l.length cl)∧w'.cell? ⟨be,offe + i * 3,none⟩=some (.int .i64 en.num)∧w'.cell? ⟨be,offe + i * 3 + 1,none⟩=some (.int .i64 en.at_)∧w'.cell? ⟨be,offe + i * 3 + 2,none⟩=some (.bool en.skip))) (by kernel_rfl) ?_ (fun hHeld => ?_)
          · exact hkeep _ (by first | assumption | exact Gr.drew (by assumption) lf | exact Gr.alloc (by assumption) lf _ | exact Gr.drew (Gr.alloc (by assumption) lf _) lf | exact Gr.alloc (Gr.drew (by assumption) lf) lf _)
          refine takeL (i:=0) (oi:=_) (v:=?_) rfl (by kernel_rfl) (by kernel_rfl) (by kernel_rfl) (fun _ _ _ h => h) (by rfl) ?_ hHeld ?_
          rotate_left
          · intro w hSw;(try dsimp only at hSw);go_simp;try with_reducible rfl
          try simp only [Act.put,List.setIfInBounds_toArray,List.set_cons_zero,List.set_cons_succ]
          refine takeL (i:=1) (oi:=_) (v:=?_) rfl (by kernel_rfl) (by kernel_rfl) (by kernel_rfl) (fun _ _ _ h => h) (by rfl) ?_ hHeld ?_
          rotate_left
          · intro w hSw;(try dsimp only at hSw);go_simp;try with_reducible rfl
          try simp only [Act.put,List.setIfInBounds_toArray,List.set_cons_zero,List.set_cons_succ]
          refine takeL (i:=2) (oi:=_) (v:=?_) rfl (by kernel_rfl) (by kernel_rfl) (by kernel_rfl) (fun _ _ _ h => h) (by rfl) ?_ hHeld ?_
          rotate_left
          · intro w hSw;(try dsimp only at hSw);go_simp;try with_reducible rfl
          try simp only [Act.put,List.setIfInBounds_toArray,List.set_cons_zero,List.set_cons_succ]
          refine skipL (i:=3) (oi:=_) rfl (by kernel_rfl) (by kernel_rfl) (by kernel_rfl) (fun _ _ _ h => h) (by rfl) hHeld ?_
          try simp only [Act.put,List.setIfInBounds_toArray,List.set_cons_zero,List.set_cons_succ]
          refine skipL (i:=4) (oi:=_) rfl (by kernel_rfl) (by kernel_rfl) (by kernel_rfl) (fun _ _ _ h => h) (by rfl) hHeld ?_
          try simp only [Act.put,List.setIfInBounds_toArray,List.set_cons_zero,List.set_cons_succ]
          refine skipL (i:=5) (oi:=_) rfl (by kernel_rfl) (by kernel_rfl) (by kernel_rfl) (fun _ _ _ h => h) (by rfl) hHeld ?_
          try simp only [Act.put,List.setIfInBounds_toArray,List.set_cons_zero,List.set_cons_succ]
          refine skipL (i:=6) (oi:=_) rfl (by kernel_rfl) (by kernel_rfl) (by kernel_rfl) (fun _ _ _ h => h) (by rfl) hHeld ?_
          try simp only [Act.put,List.setIfInBounds_toArray,List.set_cons_zero,List.set_cons_succ]
          refine skipL (i:=7) (oi:=_) rfl (by kernel_rfl) (by kernel_rfl) (by kernel_rfl) (fun _ _ _ h => h) (by rfl) hHeld ?_
          try simp only [Act.put,List.setIfInBounds_toArray,List.set_cons_zero,List.set_cons_succ]
          refine skipL (i:=8) (oi:=_) rfl (by kernel_rfl) (by kernel_rfl) (by kernel_rfl) (fun _ _ _ h => h) (by rfl) hHeld ?_
          try simp only [Act.put,List.setIfInBounds_toArray,List.set_cons_zero,List.set_cons_succ]
          refine skipL (i:=9) (oi:=_) rfl (by kernel_rfl) (by kernel_rfl) (by kernel_rfl) (fun _ _ _ h => h) (by rfl) hHeld ?_
          try simp only [Act.put,List.setIfInBounds_toArray,List.set_cons_zero,List.set_cons_succ]
          refine skipL (i:=10) (oi:=_) rfl (by kernel_rfl) (by kernel_rfl) (by kernel_rfl) (fun _ _ _ h => h) (by rfl) hHeld ?_
          try simp only [Act.put,List.setIfInBounds_toArray,List.set_cons_zero,List.set_cons_succ]
          refine skipL (i:=11) (oi:=_) rfl (by kernel_rfl) (by kernel_rfl) (by kernel_rfl) (fun _ _ _ h => h) (by rfl) hHeld ?_
          try simp only [Act.put,List.setIfInBounds_toArray,List.set_cons_zero,List.set_cons_succ]
          refine skipL (i:=12) (oi:=_) rfl (by kernel_rfl) (by kernel_rfl) (by kernel_rfl) (fun _ _ _ h => h) (by rfl) hHeld ?_
          try simp only [Act.put,List.setIfInBounds_toArray,List.set_cons_zero,List.set_cons_succ]
          refine skipL (i:=13) (oi:=_) rfl (by kernel_rfl) (by kernel_rfl) (by kernel_rfl) (fun _ _ _ h => h) (by rfl) hHeld ?_
          try simp only [Act.put,List.setIfInBounds_toArray,List.set_cons_zero,List.set_cons_succ]
          refine skipL (i:=14) (oi:=_) rfl (by kernel_rfl) (by kernel_rfl) (by kernel_rfl) (fun _ _ _ h => h) (by rfl) hHeld ?_
          try simp only [Act.put,List.setIfInBounds_toArray,List.set_cons_zero,List.set_cons_succ]
          refine takeL (i:=15) (oi:=_) (v:=?_) rfl (by kernel_rfl) (by kernel_rfl) (by kernel_rfl) (fun _ _ _ h => h) (by rfl) ?_ hHeld ?_
          rotate_left
          · intro w hSw;(try dsimp only at hSw);go_simp;try with_reducible rfl
          try simp only [Act.put,List.setIfInBounds_toArray,List.set_cons_zero,List.set_cons_succ]
          refine takeL (i:=16) (oi:=_) (v:=?_) rfl (by kernel_rfl) (by kernel_rfl) (by kernel_rfl) (fun _ _ _ h => h) (by rfl) ?_ hHeld ?_
          rotate_left
          · intro w hSw;(try dsimp only at hSw);go_simp;try with_reducible rfl
          try simp only [Act.put,List.setIfInBounds_toArray,List.set_cons_zero,List.set_cons_succ]
          refine takeL (i:=17) (oi:=_) (v:=?_) rfl (by kernel_rfl) (by kernel_rfl) (by kernel_rfl) (fun _ _ _ h => h) (by rfl) ?_ hHeld ?_
          rotate_left
          · intro w hSw;(try dsimp only at hSw);go_simp;try with_reducible rfl
          try simp only [Act.put,List.setIfInBounds_toArray,List.set_cons_zero,List.set_cons_succ]
          refine takeL (i:=18) (oi:=_) (v:=?_) rfl (by kernel_rfl) (by kernel_rfl) (by kernel_rfl) (fun _ _ _ h => h) (by rfl) ?_ hHeld ?_
          rotate_left
          · intro w hSw;(try dsimp only at hSw);go_simp;try with_reducible rfl
          try simp only [Act.put,List.setIfInBounds_toArray,List.set_cons_zero,List.set_cons_succ]
          refine takeL (i:=19) (oi:=_) (v:=?_) rfl (by kernel_rfl) (by kernel_rfl) (by kernel_rfl) (fun _ _ _ h => h) (by rfl) ?_ hHeld ?_
          rotate_left
          · intro w hSw;(try dsimp only at hSw);go_simp;try with_reducible rfl
          try simp only [Act.put,List.setIfInBounds_toArray,List.set_cons_zero,List.set_cons_succ]
          refine takeL (i:=21) (oi:=_) (v:=?_) rfl (by kernel_rfl) (by kernel_rfl) (by kernel_rfl) (fun _ _ _ h => h) (by rfl) ?_ hHeld ?_
          rotate_left
          · intro w hSw;(try dsimp only at hSw);go_simp;try with_reducible rfl
          try simp only [Act.put,List.setIfInBounds_toArray,List.set_cons_zero,List.set_cons_succ]
          refine takeL (i:=22) (oi:=_) (v:=?_) rfl (by kernel_rfl) (by kernel_rfl) (by kernel_rfl) (fun _ _ _ h => h) (by rfl) ?_ hHeld ?_
          rotate_left
          · intro w hSw;(try dsimp only at hSw);go_simp;try with_reducible rfl
          try simp only [Act.put,List.setIfInBounds_toArray,List.set_cons_zero,List.set_cons_succ]
          refine takeL (i:=23) (oi:=_) (v:=?_) rfl (by kernel_rfl) (by kernel_rfl) (by kernel_rfl) (fun _ _ _ h => h) (by rfl) ?_ hHeld ?_
          rotate_left
          · intro w hSw;(try dsimp only at hSw);go_simp;try with_reducible rfl
          try simp only [Act.put,List.setIfInBounds_toArray,List.set_cons_zero,List.set_cons_succ]
          refine takeL (i:=24) (oi:=_) (v:=?_) rfl (by kernel_rfl) (by kernel_rfl) (by kernel_rfl) (fun _ _ _ h => h) (by rfl) ?_ hHeld ?_
          rotate_left
          · intro w hSw;(try dsimp only at hSw);go_simp;try with_reducible rfl
          try simp only [Act.put,List.setIfInBounds_toArray,List.set_cons_zero,List.set_cons_succ]
          refine takeL (i:=27) (oi:=_) (v:=?_) rfl (by kernel_rfl) (by kernel_rfl) (by kernel_rfl) (fun _ _ _ h => h) (by rfl) ?_ hHeld ?_
          rotate_left
          · intro w hSw;(try dsimp only at hSw);go_simp;try with_reducible rfl
          try simp only [Act.put,List.setIfInBounds_toArray,List.set_cons_zero,List.set_cons_succ]
          refine takeL (i:=28) (oi:=_) (v:=?_) rfl (by kernel_rfl) (by kernel_rfl) (by kernel_rfl) (fun _ _ _ h => h) (by rfl) ?_ hHeld ?_
          rotate_left
          · intro w hSw;(try dsimp only at hSw);go_simp;try with_reducible rfl
          try simp only [Act.put,List.setIfInBounds_toArray,List.set_cons_zero,List.set_cons_succ]
          refine takeL (i:=29) (oi:=_) (v:=?_) rfl (by kernel_rfl) (by kernel_rfl) (by kernel_rfl) (fun _ _ _ h => h) (by rfl) ?_ hHeld ?_
          rotate_left
          · intro w hSw;(try dsimp only at hSw);go_simp;try with_reducible rfl
          try simp only [Act.put,List.setIfInBounds_toArray,List.set_cons_zero,List.set_cons_succ]
          refine wpAnyH_ready (rs:=[20,25]) (by kernel_rfl) (by simp) ?_
          refine consL (oi:=_) rfl (fun K hK => ?_) ?_
          · go_simp
            (go_at_call 133;(with_reducible refine (hcE _ (by first | assumption | exact Gr.drew (by assumption) lf | exact Gr.alloc (by assumption) lf _ | exact Gr.drew (Gr.alloc (by assumption) lf _) lf | exact Gr.alloc (Gr.drew (by assumption) lf) lf _)).mono ?_);rintro e w6 ⟨a6,c6,rfl,hown6,hb6⟩;have gr6:Gr bf W w6:=Gr.below (by first | assumption | exact Gr.drew (by assumption) lf | exact Gr.alloc (by assumption) lf _ | exact Gr.drew (Gr.alloc (by assumption) lf _) lf | exact Gr.alloc (Gr.drew (by assumption) lf) lf _) hb6 lf;have hz6:=gr6.g.size;have hy6:=hb6.size;(try simp at hy6))
            (try go_wp2_with fail)
            refine hK.out _ _ ?_ (fun hNew => ?_)
            · exact hkeep _ (by first | assumption | exact Gr.drew (by assumption) lf | exact Gr.alloc (by assumption) lf _ | exact Gr.drew (Gr.alloc (by assumption) lf _) lf | exact Gr.alloc (Gr.drew (by assumption) lf) lf _)
            clear hK K hHeld
            have hHeld:=hNew
            clear hNew
            try simp only [Act.put,List.setIfInBounds_toArray,List.set_cons_zero,List.set_cons_succ]
            refine wpAnyH_ready (rs:=[25]) (by kernel_rfl) (by simp) ?_
            refine consL (oi:=_) rfl (fun K hK => ?_) ?_
            · go_simp
              refine hK.out _ _ ?_ (fun hNew => ?_)
              · exact hkeep _ (by first | assumption | exact Gr.drew (by assumption) lf | exact Gr.alloc (by assumption) lf _ | exact Gr.drew (Gr.alloc (by assumption) lf _) lf | exact Gr.alloc (Gr.drew (by assumption) lf) lf _)
              clear hK K hHeld
              have hHeld:=hNew
              clear hNew
              try simp only [Act.put,List.setIfInBounds_toArray,List.set_cons_zero,List.set_cons_succ]
              refine wpAnyH_ready (rs:=[26]) (by kernel_rfl) (by simp) ?_
              refine consL (oi:=_) rfl (fun K hK => ?_) ?_
              · (first | (refine step_app elE (by rfl) _ _ rfl W.heap.size a6 kept.length c6 _ rfl ((OwnL.base_le hown6 (by first | omega | (simp;done) | (simp;omega))).alloc _) _ 1 1 _ rfl rfl (Cells.src (Cells.new _ _ _)) (by simp [Value.oneCell']) (by omega) (by unfold maxLen;omega) (by omega) (by first | omega | (simp;done) | (simp;omega)) ?_;intro g7 cg7 w7 howng7 hb7;have gr7:Gr bf W w7:=Gr.low (by first | assumption | exact Gr.drew (by assumption) lf | exact Gr.alloc (by assumption) lf _ | exact Gr.drew (Gr.alloc (by assumption) lf _) lf | exact Gr.alloc (Gr.drew (by assumption) lf) lf _) hb7 lf;have hz7:=gr7.g.size) | (refine step_app elE (by rfl) _ _ rfl W.heap.size a6 kept.length c6 _ rfl ((OwnL.base_le hown6 (by first | omega | (simp;done) | (simp;omega))).alloc _) _ 1 1 _ rfl rfl (Cells.src (Cells.new _ _ _)) (by simp [Value.oneCell']) (by omega) (by unfold maxLen;omega) (by omega) (by first | omega | (simp;done) | (simp;omega)) ?_;intro g7 cg7 w7 howng7 hb7;have gr7:Gr bf W w7:=Gr.low (by first | assumption | exact Gr.drew (by assumption) lf | exact Gr.alloc (by assumption) lf _ | exact Gr.drew (Gr.alloc (by assumption) lf _) lf | exact Gr.alloc (Gr.drew (by assumption) lf) lf _) hb7 lf;have hz7:=gr7.g.size))
                refine hK.out _ _ ?_ (fun hNew => ?_)
                · exact hkeep _ (by first | assumption | exact Gr.drew (by assumption) lf | exact Gr.alloc (by assumption) lf _ | exact Gr.drew (Gr.alloc (by assumption) lf _) lf | exact Gr.alloc (Gr.drew (by assumption) lf) lf _)
                clear hK K hHeld
                have hHeld:=hNew
                clear hNew
                try simp only [Act.put,List.setIfInBounds_toArray,List.set_cons_zero,List.set_cons_succ]
                refine wpAnyH_ready (rs:=[30]) (by kernel_rfl) (by simp) ?_
                refine consL (oi:=_) rfl (fun K hK => ?_) ?_
                · go_simp
                  (go_at_call 131;(with_reducible refine (hL2 _ gr7 _ _ howng7).mono ?_);rintro e w8 ⟨rfl,hg8,a9,c9,hf9,hi9⟩;have gr8:Gr bf W w8:=gr7.trans hg8)
                  (try go_wp2_with fail)
                  refine hK.out _ _ ?_ (fun hNew => ?_)
                  · exact hkeep _ (by first | assumption | exact Gr.drew (by assumption) lf | exact Gr.alloc (by assumption) lf _ | exact Gr.drew (Gr.alloc (by assumption) lf _) lf | exact Gr.alloc (Gr.drew (by assumption) lf) lf _)
                  clear hK K hHeld
                  have hHeld:=hNew
                  clear hNew
                  try simp only [Act.put,List.setIfInBounds_toArray,List.set_cons_zero,List.set_cons_succ]
                  refine takeL (i:=31) (oi:=_) (v:=?_) rfl (by kernel_rfl) (by kernel_rfl) (by kernel_rfl) (fun _ _ _ h => h) (by rfl) ?_ hHeld ?_
                  rotate_left
                  · intro w hSw;(try dsimp only at hSw);go_simp;try with_reducible rfl
                  try simp only [Act.put,List.setIfInBounds_toArray,List.set_cons_zero,List.set_cons_succ]
                  refine takeL (i:=32) (oi:=_) (v:=?_) rfl (by kernel_rfl) (by kernel_rfl) (by kernel_rfl) (fun _ _ _ h => h) (by rfl) ?_ hHeld ?_
                  rotate_left
                  · intro w hSw;(try dsimp only at hSw);go_simp;try with_reducible rfl
                  try simp only [Act.put,List.setIfInBounds_toArray,List.set_cons_zero,List.set_cons_succ]
                  refine wpAnyH_done (by kernel_rfl) ?_ _
                  refine NoPanic.normal ?_
                  go_wp2
                  go_ret
                  exact ⟨rfl,gr8,a9,c9,hf9,hi9⟩
                exact AllReadyH.nil
              exact AllReadyH.nil
            exact AllReadyH.nil
          refine consL (oi:=_) rfl (fun K hK => ?_) ?_
          · go_simp
            refine hK.out _ _ ?_ (fun hNew => ?_)
            · exact hkeep _ (by first | assumption | exact Gr.drew (by assumption) lf | exact Gr.alloc (by assumption) lf _ | exact Gr.drew (Gr.alloc (by assumption) lf _) lf | exact Gr.alloc (Gr.drew (by assumption) lf) lf _)
            clear hK K hHeld
            have hHeld:=hNew
            clear hNew
            try simp only [Act.put,List.setIfInBounds_toArray,List.set_cons_zero,List.set_cons_succ]
            refine wpAnyH_ready (rs:=[20]) (by kernel_rfl) (by simp) ?_
            refine consL (oi:=_) rfl (fun K hK => ?_) ?_
            · go_simp
              (go_at_call 133;(with_reducible refine (hcE _ (by first | assumption | exact Gr.drew (by assumption) lf | exact Gr.alloc (by assumption) lf _ | exact Gr.drew (Gr.alloc (by assumption) lf _) lf | exact Gr.alloc (Gr.drew (by assumption) lf) lf _)).mono ?_);rintro e w6 ⟨a6,c6,rfl,hown6,hb6⟩;have gr6:Gr bf W w6:=Gr.below (by first | assumption | exact Gr.drew (by assumption) lf | exact Gr.alloc (by assumption) lf _ | exact Gr.drew (Gr.alloc (by assumption) lf _) lf | exact Gr.alloc (Gr.drew (by assumption) lf) lf _) hb6 lf;have hz6:=gr6.g.size;have hy6:=hb6.size;(try simp at hy6))
              (try go_wp2_with fail)
              refine hK.out _ _ ?_ (fun hNew => ?_)
              · exact hkeep _ (by first | assumption | exact Gr.drew (by assumption) lf | exact Gr.alloc (by assumption) lf _ | exact Gr.drew (Gr.alloc (by assumption) lf _) lf | exact Gr.alloc (Gr.drew (by assumption) lf) lf _)
              clear hK K hHeld
              have hHeld:=hNew
              clear hNew
              try simp only [Act.put,List.setIfInBounds_toArray,List.set_cons_zero,List.set_cons_succ]
              refine wpAnyH_ready (rs:=[26]) (by kernel_rfl) (by simp) ?_
              refine consL (oi:=_) rfl (fun K hK => ?_) ?_
              · (first | (refine step_app elE (by rfl) _ _ rfl W.heap.size a6 kept.length c6 _ rfl (OwnL.base_le hown6 (by first | omega | (simp;done) | (simp;omega))) _ 1 1 _ rfl rfl (Cells.src (Cells.below (Cells.new _ _ _) hb6)) (by simp [Value.oneCell']) (by omega) (by unfold maxLen;omega) (by omega) (by first | omega | (simp;done) | (simp;omega)) ?_;intro g7 cg7 w7 howng7 hb7;have gr7:Gr bf W w7:=Gr.low (by first | assumption | exact Gr.drew (by assumption) lf | exact Gr.alloc (by assumption) lf _ | exact Gr.drew (Gr.alloc (by assumption) lf _) lf | exact Gr.alloc (Gr.drew (by assumption) lf) lf _) hb7 lf;have hz7:=gr7.g.size) | (refine step_app elE (by rfl) _ _ rfl W.heap.size a6 kept.length c6 _ rfl (OwnL.base_le hown6 (by first | omega | (simp;done) | (simp;omega))) _ 1 1 _ rfl rfl (Cells.src (Cells.below (Cells.below (Cells.new _ _ _) ((Below.refl _ _).drew)) hb6)) (by simp [Value.oneCell']) (by omega) (by unfold maxLen;omega) (by omega) (by first | omega | (simp;done) | (simp;omega)) ?_;intro g7 cg7 w7 howng7 hb7;have gr7:Gr bf W w7:=Gr.low (by first | assumption | exact Gr.drew (by assumption) lf | exact Gr.alloc (by assumption) lf _ | exact Gr.drew (Gr.alloc (by assumption) lf _) lf | exact Gr.alloc (Gr.drew (by assumption) lf) lf _) hb7 lf;have hz7:=gr7.g.size))
                refine hK.out _ _ ?_ (fun hNew => ?_)
                · exact hkeep _ (by first | assumption | exact Gr.drew (by assumption) lf | exact Gr.alloc (by assumption) lf _ | exact Gr.drew (Gr.alloc (by assumption) lf _) lf | exact Gr.alloc (Gr.drew (by assumption) lf) lf _)
                clear hK K hHeld
                have hHeld:=hNew
                clear hNew
                try simp only [Act.put,List.setIfInBounds_toArray,List.set_cons_zero,List.set_cons_succ]
                refine wpAnyH_ready (rs:=[30]) (by kernel_rfl) (by simp) ?_
                refine consL (oi:=_) rfl (fun K hK => ?_) ?_
                · go_simp
                  (go_at_call 131;(with_reducible refine (hL2 _ gr7 _ _ howng7).mono ?_);rintro e w8 ⟨rfl,hg8,a9,c9,hf9,hi9⟩;have gr8:Gr bf W w8:=gr7.trans hg8)
                  (try go_wp2_with fail)
                  refine hK.out _ _ ?_ (fun hNew => ?_)
                  · exact hkeep _ (by first | assumption | exact Gr.drew (by assumption) lf | exact Gr.alloc (by assumption) lf _ | exact Gr.drew (Gr.alloc (by assumption) lf _) lf | exact Gr.alloc (Gr.drew (by assumption) lf) lf _)
                  clear hK K hHeld
                  have hHeld:=hNew
                  clear hNew
                  try simp only [Act.put,List.setIfInBounds_toArray,List.set_cons_zero,List.set_cons_succ]
                  refine takeL (i:=31) (oi:=_) (v:=?_) rfl (by kernel_rfl) (by kernel_rfl) (by kernel_rfl) (fun _ _ _ h => h) (by rfl) ?_ hHeld ?_
                  rotate_left
                  · intro w hSw;(try dsimp only at hSw);go_simp;try with_reducible rfl
                  try simp only [Act.put,List.setIfInBounds_toArray,List.set_cons_zero,List.set_cons_succ]
                  refine takeL (i:=32) (oi:=_) (v:=?_) rfl (by kernel_rfl) (by kernel_rfl) (by kernel_rfl) (fun _ _ _ h => h) (by rfl) ?_ hHeld ?_
                  rotate_left
                  · intro w hSw;(try dsimp only at hSw);go_simp;try with_reducible rfl
                  try simp only [Act.put,List.setIfInBounds_toArray,List.set_cons_zero,List.set_cons_succ]
                  refine wpAnyH_done (by kernel_rfl) ?_ _
                  refine NoPanic.normal ?_
                  go_wp2
                  go_ret
                  exact ⟨rfl,gr8,a9,c9,hf9,hi9⟩
                exact AllReadyH.nil
              exact AllReadyH.nil
            exact AllReadyH.nil
          exact AllReadyH.nil
end Go.Proofs.YticjeianiahppaaGreatDoor.Cps
namespace Go.Proofs.YticjeianiahppaaGreatDoor.Cps
open Go.RowKit Go.Flow Go.Shelf
theorem nextR_free {p:Post} (h0:postErr p=0):∀ (r i:Nat) (f:Int),i + r=p.sends.length→nextR p [] r i f≠none
  | 0,i,f,_ => by simp [nextR]
  | r + 1,i,f,h => by
    intro e
    obtain ⟨m,hm,_,hc,_⟩:=earliest_spec h0 (show i < p.sends.length by omega)
    unfold nextR at e
    rw [List.findSome?_eq_none_iff] at e
    have:=e m (by simp;omega)
    rw [hc] at this
    simp only [fitsB,List.any_nil,Bool.not_false,Bool.and_self,if_true,Option.map_eq_none_iff] at this
    exact nextR_free h0 r (i + 1) _ (by omega) this
theorem searchF_nil {p:Post} (h0:postErr p=0):(searchF p []).isSome=true:=by
  cases h:searchF p [] with
  | none => exact absurd h (nextR_free h0 _ _ _ (by omega))
  | some _ => rfl
theorem leaveR_all {p:Post} (h0:postErr p=0) (l:List Ent):∀ (r i:Nat) (out:List Int),leaveR p l r i out [] r≠none
  | 0,i,out => by simp [leaveR,searchF_nil h0]
  | r + 1,i,out => by
    intro e
    rw [leaveR,if_neg (by omega),if_pos (by omega)] at e
    cases h:leaveR p l r (i + 1) (out ++ [(i:Int)]) [] (r + 1 - 1) with
    | none => exact leaveR_all h0 l r (i + 1) _ (by simpa using h)
    | some z => rw [h] at e;cases e
def oddM (p:Post) (l:List Ent) (m:Nat):Option (List Int):=leaveR p l l.length 0 [] [] m
def oddF (p:Post) (l:List Ent):List Int:=((List.range (l.length + 1)).findSome? (oddM p l)).getD []
def oddOut (p:Post) (l:List Ent):List Int:=if bookErr p l=0 then oddF p l else []
theorem oddF_some {p:Post} {l:List Ent} {k:Nat} {z:List Int} (hk:k < l.length + 1) (h:∀ j,j < k→oddM p l j=none) (h2:oddM p l k=some z):oddF p l=z:=by
  unfold oddF
  rw [show l.length + 1=k + (1 + (l.length - k)) by omega,List.range_add,List.findSome?_append,show (List.range k).findSome? (oddM p l)=none by rw [List.findSome?_eq_none_iff];intro x hx;exact h x (by simpa using hx)]
  rw [Nat.add_comm 1,List.range_succ_eq_map]
  simp [h2]
theorem leave_none {p:Post} {l:List Ent} (hz:(searchF p l).isSome=true):∀ (r i:Nat),i + r=l.length→leaveR p l r i [] (l.take i) 0=some []
  | 0,i,h => by
    rw [leaveR,if_neg (by omega),List.take_of_length_le (by omega),if_pos hz]
  | r + 1,i,h => by
    rw [leaveR,if_neg (by omega)]
    simp only [Nat.lt_irrefl,if_false]
    have hi:i < l.length:=by omega
    rw [show l.take i ++ [l.getD i ⟨0,0,false⟩]=l.take (i + 1) by rw [List.take_succ_eq_append_getElem hi];simp [hi]]
    exact leave_none hz r (i + 1) (by omega)
set_option maxRecDepth 100000 in
set_option maxHeartbeats 4000000 in
theorem Odd0_any (a:Option Addr) (c:Nat) (ar:Option Addr) (cr:Nat) (p:Post) (al:Option Addr) (l:List Ent) (cl:Nat) (w:World) (hs:IntsAt w a p.sends) (hr:RoutesAt w ar p.routes) (sm:PostSmall p) (he:EntsAt w al l) (hl:l.length≤1000000) (hz:(searchF p l).isSome=true) :
    Calls Tryz.prog 73 #[.agg #[.slice a p.sends.length c,.slice ar p.routes.length cr,.int .i64 p.pat],.slice al l.length cl] w fun e w' => RetInts (bookErr p l) (oddOut p l) e w'∧Below w.heap.size w w':=by
  obtain ⟨W0,hW0⟩:∃ z:World,z=(w.alloc (.cells #[.slice a p.sends.length c,.slice ar p.routes.length cr,.int .i64 p.pat] 51)).alloc (.cells #[.slice al l.length cl] 52):=⟨_,rfl⟩
  have t0:Below w.heap.size w W0:=by rw [hW0];exact ((Below.refl _ _).alloc (Nat.le_refl _) _).alloc (by simp) _
  have z0:W0.heap.size=w.heap.size + 1 + 1:=by rw [hW0];simp
  have C0:Cells W0 w.heap.size #[.slice a p.sends.length c,.slice ar p.routes.length cr,.int .i64 p.pat] 51:=by rw [hW0];exact (Cells.new _ _ _).alloc _
  have L0:Cells W0 (w.heap.size + 1) #[.slice al l.length cl] 52:=by rw [hW0];exact Cells.new' _ _ _ _ (by simp)
  have bk:=fun W (b:Below w.heap.size w W) => booked_any a c ar cr p al l cl W (hs.below b) (hr.below b) sm (he.below b) hl
  have bd:=bookErr_bd p l
  by_cases h0:bookErr p l=0
  · have hO:oddOut p l=oddF p l:=by unfold oddOut;rw [if_pos h0]
    rw [h0] at bk ⊢
    rw [hO]
    obtain ⟨oF,hoF⟩:∃ z,oddF p l=z:=⟨_,rfl⟩
    rw [hoF]
    have HoF:=Lib.hid hoF
    clear hoF
    obtain ⟨hp0,l8,_⟩:=bookErr_ok h0
    have wrk:=fun W (b:Below w.heap.size w W) => work_any a c ar cr p W (hs.below b) (hr.below b) hp0
    have Hp:=Lib.hid hp0
    have hO0:oddM p l 0=some []:=leave_none hz l.length 0 (by omega)
    have HO:=Lib.hid hO0
    clear hO0
    clear h0 hO bd hp0
    go_enter Tryz.func73,Tryz.ntmps73
    go_wp2_with fail
    rw [← hW0]
    clear hW0
    go_at_call 94
    with_reducible refine (bk _ t0).mono ?_
    rintro e w1 ⟨rfl,hb1⟩
    have C1:=C0.below hb1
    have L1:=L0.below hb1
    have t1:Below w.heap.size w w1:=t0.trans (hb1.mono t0.size)
    have k0:=C1.cell 0
    have k1:=C1.cell 1
    have k2:=C1.cell 2
    have lC:=C1.lt
    have lL:=L1.lt
    simp at k0 k1 k2
    clear bk C0 L0
    go_wp2_with fail
    go_at_call 86
    with_reducible refine (wrk _ t1).mono ?_
    rintro e w2 ⟨Bw,rfl,hBw,hW,hb2⟩
    have t2:Below w.heap.size w w2:=t1.trans (hb2.mono t1.size)
    have L2:=L1.below hb2
    have z2:=hb2.size
    clear k0 k1 k2 lC C1 L1 lL wrk
    obtain ⟨WB,hWB⟩:∃ z:World,z=w2.alloc (.cells #[.pointer (some ⟨Bw,0,none⟩)] 166):=⟨_,rfl⟩
    have bB:Below w2.heap.size w2 WB:=by rw [hWB];exact (Below.refl _ _).alloc (Nat.le_refl _) _
    have zB:WB.heap.size=w2.heap.size + 1:=by rw [hWB];simp
    have tB:Below w.heap.size w WB:=t2.trans (bB.mono t2.size)
    have S0:Sta p l a c ar cr Bw al cl w2.heap.size (w.heap.size + 1) WB:=by
      refine ⟨hW.below bB,hs.below tB,hr.below tB,he.below tB,?_,?_⟩
      · have h:Cells WB w2.heap.size #[.pointer (some ⟨Bw,0,none⟩)] 166:=by rw [hWB];exact Cells.new _ _ _
        have:=h.cell 0;simpa using this
      · have:=(L2.below bB).cell 0;simpa using this
    obtain ⟨W1,hW1⟩:∃ z:World,z=(WB.alloc (.cells #[.slice none 0 0] 22)).alloc (.cells #[.func (.func 131) #[] #[.pointer (some ⟨w.heap.size + 1,0,none⟩),.pointer (some ⟨w2.heap.size + 1,0,none⟩),.pointer (some ⟨w2.heap.size,0,none⟩),.pointer (some ⟨w2.heap.size + 1 + 1,0,none⟩)]] 237):=⟨_,rfl⟩
    have b1:Below WB.heap.size WB W1:=by rw [hW1];exact ((Below.refl _ _).alloc (Nat.le_refl _) _).alloc (by simp) _
    have z1:W1.heap.size=w2.heap.size + 1 + 1 + 1:=by rw [hW1];simp;omega
    have cF:Cells W1 (w2.heap.size + 1) #[.slice none 0 0] 22:=by rw [hW1];exact (Cells.new' _ _ _ _ zB.symm).alloc _
    have cN:Cells W1 (w2.heap.size + 1 + 1) #[.func (.func 131) #[] #[.pointer (some ⟨w.heap.size + 1,0,none⟩),.pointer (some ⟨w2.heap.size + 1,0,none⟩),.pointer (some ⟨w2.heap.size,0,none⟩),.pointer (some ⟨w2.heap.size + 1 + 1,0,none⟩)]] 237:=by rw [hW1];exact Cells.new' _ _ _ _ (by simp;omega)
    have kn:W1.cell? ⟨w2.heap.size + 1 + 1,0,none⟩=some (.func (.func 131) #[] #[.pointer (some ⟨w.heap.size + 1,0,none⟩),.pointer (some ⟨w2.heap.size + 1,0,none⟩),.pointer (some ⟨w2.heap.size,0,none⟩),.pointer (some ⟨w2.heap.size + 1 + 1,0,none⟩)]):=by have:=cN.cell 0;simpa using this
    have G1:Gr (w2.heap.size + 1) W1 W1:=⟨World.grownBy.refl _ _,cF.frozen 0,_,by have:=cF.cell 0;simpa using this⟩
    have kl:W1.cell? ⟨w.heap.size + 1,0,none⟩=some (.slice al l.length cl):=by have:=((L2.below bB).below b1).cell 0;simpa using this
    have ln:=cell_ltK kn
    have ll:=cell_ltK kl
    have t3:Below w.heap.size w W1:=tB.trans (b1.mono tB.size)
    have hlv:∀ (k:Nat) X,k≤1000→k=0→Gr (w2.heap.size + 1) W1 X→Calls Tryz.prog 131 #[.slice none 0 0,.slice none 0 0,.int .i64 0,.int .i64 k,.pointer (some ⟨w.heap.size + 1,0,none⟩),.pointer (some ⟨w2.heap.size + 1,0,none⟩),.pointer (some ⟨w2.heap.size,0,none⟩),.pointer (some ⟨w2.heap.size + 1 + 1,0,none⟩)] X (LeavePost (w2.heap.size + 1) X (oddM p l k)):=fun k X hk hk0 g => by
      have:=leave0_any p l a c ar cr Bw al cl w2.heap.size (w2.heap.size + 1) (w.heap.size + 1) (w2.heap.size + 1 + 1) WB S0 Hp.out (by omega) (by omega) (by omega)
        l.length 0 k [] none 0 [] none 0 X (by omega) hk (by simp) (by simp) (IntsAt.nil _ _) (fun _ => ⟨rfl,rfl⟩) (fun _ h => by cases h) (EntsAt.nil _ _) (fun _ => ⟨rfl,rfl⟩) (fun _ h => by cases h) (b1.trans (g.toBelow (by omega) (by omega))) (g.cell (by omega) kn) ⟨World.grownBy.refl _ _,g.f,g.v⟩ hk0 (by subst hk0;have h:=HO.out;unfold oddM at h;rw [h];rfl)
      rw [show ((0:Nat):Int)=0 from rfl,List.length_nil,List.length_nil] at this
      exact this
    have hw1:IntKind.i64.wrap ((l.length:Int) + 1)=(l.length:Int) + 1:=IntWalk.i64_in _ (by omega)
    have kl2:=kl
    rw [hW1,hWB] at kl2
    have ll2:w.heap.size + 1 < w2.heap.size + 1 + 1 + 1:=by omega
    have HW1:=Lib.hid hW1
    have HWB:=Lib.hid hWB
    clear hWB hW1
    go_wp2
    rw [← HWB.out,← HW1.out]
    clear HWB HW1 cF cN L2 kl2 ll2
    go_loopw [23] (fun o wr => ∃ k:Nat,k≤l.length + 1∧o=.int .i64 k∧(∀ j,j < k→oddM p l j=none)∧Gr (w2.heap.size + 1) W1 wr) (fun o _ => l.length + 1 - (intOf o).toNat)
    case atStart => exact ⟨0,by omega,rfl,fun j hj => absurd hj (Nat.not_lt_zero j),G1⟩
    case round =>
      obtain ⟨k,hk,rfl,hno,hg⟩:=hrel
      have Hno:=Lib.hid hno
      clear hno
      have knr:=hg.cell (by omega) kn
      have lnr:=cell_ltK knr
      have tr:Below w.heap.size w wr:=t3.trans (hg.toBelow (by omega) (by omega))
      by_cases hkl:k < l.length + 1
      · have hkI:(k:Int) < (l.length:Int) + 1:=by omega
        have hk0:k=0:=by
          rcases Nat.eq_zero_or_pos k with e | e
          · exact e
          · have h:=Hno.out 0 e
            rw [HO.out] at h;cases h
        have hcl:=hlv k wr (by omega) hk0 hg
        replace hk0:=Lib.hid hk0
        obtain ⟨o,ho⟩:∃ o,oddM p l k=o:=⟨_,rfl⟩
        rw [ho] at hcl
        cases o with
        | none =>
          rw [hk0.out,HO.out] at ho;cases ho
        | some z =>
          have hF:=oddF_some hkl Hno.out ho
          obtain rfl:oF=z:=by rw [← HoF.out];exact hF
          clear hF ho HoF
          go_wp2_with (go_at_call 131;(with_reducible refine hcl.mono ?_);rintro e w5 ⟨rfl,hg5,a9,c9,hf9,hi9⟩;have lf9:=cell_ltK hf9)
          go_ret2
          exact ⟨⟨a9,c9,rfl,hi9⟩,tr.trans (hg5.toBelow (by have:=t2.size;omega) (by have:=tr.size;omega))⟩
      · exact absurd (Hno.out l.length (by omega)) (leaveR_all Hp.out l l.length 0 [])
  · have hO:oddOut p l=[]:=by unfold oddOut;rw [if_neg h0]
    rw [hO]
    obtain ⟨E,hEe⟩:∃ E,bookErr p l=E:=⟨_,rfl⟩
    rw [hEe] at bk bd h0 ⊢
    have hne:(E != 0)=true:=by simpa using h0
    clear h0 hO hEe
    go_enter Tryz.func73,Tryz.ntmps73
    go_wp2_with fail
    rw [← hW0]
    clear hW0
    go_at_call 94
    with_reducible refine (bk _ t0).mono ?_
    rintro e w1 ⟨rfl,hb1⟩
    have t1:Below w.heap.size w w1:=t0.trans (hb1.mono t0.size)
    go_wp2_with fail
    go_ret2
    exact ⟨⟨none,0,rfl,IntsAt.nil _ _⟩,t1⟩
end Go.Proofs.YticjeianiahppaaGreatDoor.Cps
namespace Go.Proofs.YticjeianiahppaaGreatDoor.Cps
open Go.RowKit Go.Flow
theorem _root_.Go.Proofs.YticjeianiahppaaGreatDoor.Cells.ents {w:World} {g:Nat} {cs:Array Value} {T:TypeId} (h:Cells w g cs T) (l:List Ent) (hl:cs.toList=flatE l):EntsAt w (some ⟨g,0,none⟩) l:=fun k hk => by
  obtain ⟨e0,e1,e2⟩:=flatE_get l k hk
  rw [← hl,Array.getElem?_toList] at e0 e1 e2
  exact ⟨g,0,rfl,h.lt,by rw [Nat.zero_add,h.cell];exact e0,by rw [Nat.zero_add,h.cell];exact e1,by rw [Nat.zero_add,h.cell];exact e2⟩
end Go.Proofs.YticjeianiahppaaGreatDoor.Cps
namespace Go.Proofs.YticjeianiahppaaGreatDoor.Cps
open Go.RowKit Go.Flow Go.Shelf
def proveB (p:Post) (t:List (List (List Int))) (l:List Ent):Bool:=decide (bookErr p l=0) && decide (shapeErr p t=0) && explsB p t l
set_option maxHeartbeats 2000000 in
theorem explOk_meets (aj:Option Addr) (j:List Ent) (n c B:Nat) (w:World) (hc:w.cell? ⟨B,0,none⟩=some (.slice aj n c)) (hj:EntsAt w aj j) (hn:Hid (j.length=n)) (hl:n≤1000) (e:Ent) (h0:0≤e.num) (h1:e.num < (n:Int)) :
    Meets Tryz.prog w 137 #[] #[.pointer (some ⟨B,0,none⟩)] (.agg #[.int .i64 e.num,.int .i64 e.at_,.bool e.skip]) (explOk j e):=by
  intro w' hb'
  have hc':=below_cell hb' hc
  have lB:=cell_ltK hc'
  obtain ⟨e0,e1,e2⟩:=e
  simp only at h0 h1
  obtain ⟨m,rfl⟩:∃ m:Nat,e0=(m:Int):=⟨e0.toNat,by omega⟩
  have hm:m < j.length:=by rw [hn.out];omega
  have hmI:(m:Int) < (n:Int):=h1
  obtain ⟨b,off,rfl,hb,z0,z1,z2⟩:=(hj.below hb') m hm
  have He:Hid (explOk j ⟨(m:Int),e1,e2⟩=decide (j[m]=⟨(m:Int),e1,e2⟩)):=Lib.hid (by unfold explOk;simp [hm])
  obtain ⟨⟨x0,x1,x2⟩,hx⟩:∃ x,j[m]=x:=⟨_,rfl⟩
  rw [hx] at z0 z1 z2 He
  simp only at z0 z1 z2
  clear hx hc hj h0
  show Calls Tryz.prog 137 #[.agg #[.int .i64 (m:Int),.int .i64 e1,.bool e2],.pointer (some ⟨B,0,none⟩)] w' _
  by_cases c0:x0=(m:Int)
  · by_cases c1:x1=e1
    · by_cases c2:x2=e2
      · subst c0 c1 c2
        have He2:Hid (explOk j ⟨(m:Int),x1,x2⟩=true):=Lib.hid (by rw [He.out];simp)
        clear He
        go_enter Tryz.func137,Tryz.ntmps137
        go_wp2
        (refine wp_region_ext 8 (by kernel_rfl) (by kernel_rfl) ?_;simp only [List.take_succ_cons,List.take_zero,List.drop_succ_cons,List.drop_zero];(repeat (go_big_quiet_step ((fail))));refine wpQuiet_nil ?_;rintro _ ⟨ex,rfl⟩;have hex:=ex.below;have hexz:=ex.size;(try simp at hexz);(try (have hy0:w.heap.size < ex.to.heap.size:=by omega));(try (have hy1:w.heap.size + 1 < ex.to.heap.size:=by omega));(try (have hy2:w.heap.size + 2 < ex.to.heap.size:=by omega)))
        go_wp2
        go_ret
        rw [He2.out]
        exact ⟨rfl,by have:=ex.below;exact ((Below.refl _ _).alloc (Nat.le_refl _) _).trans (this.mono (by simp))⟩
      · have He2:Hid (explOk j ⟨(m:Int),e1,e2⟩=false):=Lib.hid (by rw [He.out];simp [c2])
        have t2:(x2 == e2)=false:=by simpa using c2
        subst c0 c1
        clear He
        go_enter Tryz.func137,Tryz.ntmps137
        go_wp2
        (refine wp_region_ext 8 (by kernel_rfl) (by kernel_rfl) ?_;simp only [List.take_succ_cons,List.take_zero,List.drop_succ_cons,List.drop_zero];(repeat (go_big_quiet_step ((fail))));refine wpQuiet_nil ?_;rintro _ ⟨ex,rfl⟩;have hex:=ex.below;have hexz:=ex.size;(try simp at hexz);(try (have hy0:w.heap.size < ex.to.heap.size:=by omega));(try (have hy1:w.heap.size + 1 < ex.to.heap.size:=by omega));(try (have hy2:w.heap.size + 2 < ex.to.heap.size:=by omega)))
        go_wp2
        go_ret
        rw [He2.out]
        exact ⟨rfl,by have:=ex.below;exact ((Below.refl _ _).alloc (Nat.le_refl _) _).trans (this.mono (by simp))⟩
    · have He2:Hid (explOk j ⟨(m:Int),e1,e2⟩=false):=Lib.hid (by rw [He.out];simp [c1])
      have t1:(x1 == e1)=false:=by simpa using c1
      subst c0
      clear He
      go_enter Tryz.func137,Tryz.ntmps137
      go_wp2
      (refine wp_region_ext 8 (by kernel_rfl) (by kernel_rfl) ?_;simp only [List.take_succ_cons,List.take_zero,List.drop_succ_cons,List.drop_zero];(repeat (go_big_quiet_step ((fail))));refine wpQuiet_nil ?_;rintro _ ⟨ex,rfl⟩;have hex:=ex.below;have hexz:=ex.size;(try simp at hexz);(try (have hy0:w.heap.size < ex.to.heap.size:=by omega));(try (have hy1:w.heap.size + 1 < ex.to.heap.size:=by omega));(try (have hy2:w.heap.size + 2 < ex.to.heap.size:=by omega)))
      go_wp2
      go_ret
      rw [He2.out]
      exact ⟨rfl,by have:=ex.below;exact ((Below.refl _ _).alloc (Nat.le_refl _) _).trans (this.mono (by simp))⟩
  · have He2:Hid (explOk j ⟨(m:Int),e1,e2⟩=false):=Lib.hid (by rw [He.out];simp [c0])
    have t0:(x0 == (m:Int))=false:=by simpa using c0
    clear He
    go_enter Tryz.func137,Tryz.ntmps137
    go_wp2
    (refine wp_region_ext 8 (by kernel_rfl) (by kernel_rfl) ?_;simp only [List.take_succ_cons,List.take_zero,List.drop_succ_cons,List.drop_zero];(repeat (go_big_quiet_step ((fail))));refine wpQuiet_nil ?_;rintro _ ⟨ex,rfl⟩;have hex:=ex.below;have hexz:=ex.size;(try simp at hexz);(try (have hy0:w.heap.size < ex.to.heap.size:=by omega));(try (have hy1:w.heap.size + 1 < ex.to.heap.size:=by omega));(try (have hy2:w.heap.size + 2 < ex.to.heap.size:=by omega)))
    go_wp2
    go_ret
    rw [He2.out]
    exact ⟨rfl,by have:=ex.below;exact ((Below.refl _ _).alloc (Nat.le_refl _) _).trans (this.mono (by simp))⟩
set_option maxRecDepth 100000 in
set_option maxHeartbeats 4000000 in
theorem prove_a1 (a:Option Addr) (c:Nat) (ar:Option Addr) (cr:Nat) (p:Post) (at_:Option Addr) (t:List (List (List Int))) (ct:Nat) (al:Option Addr) (l:List Ent) (cl:Nat) (w:World) (hs:IntsAt w a p.sends) (hr:RoutesAt w ar p.routes) (sm:PostSmall p) (ht:TruthAt w at_ t) (st:TruthSmall t) (he:EntsAt w al l) (hl:l.length≤1000) (E:Int) (hE:bookErr p l=E) (hne:E≠0) :
    Calls Tryz.prog 74 #[.agg #[.slice a p.sends.length c,.slice ar p.routes.length cr,.int .i64 p.pat],.slice at_ t.length ct,.slice al l.length cl] w fun e w' => e=.returned (.bool false)∧Below w.heap.size w w':=by
  have bk:=fun W (b:Below w.heap.size w W) => booked_any a c ar cr p al l cl W (hs.below b) (hr.below b) sm (he.below b) (by omega)
  have shp:=fun W (b:Below w.heap.size w W) => shaped_any a c ar cr p at_ ct t W (hr.below b) (ht.below b) sm.s sm.r sm.l st.n st.l st.r
  obtain ⟨W0,hW0⟩:∃ z:World,z=w.alloc (.cells #[.slice a p.sends.length c,.slice ar p.routes.length cr,.int .i64 p.pat] 51):=⟨_,rfl⟩
  have t0:Below w.heap.size w W0:=by rw [hW0];exact (Below.refl _ _).alloc (Nat.le_refl _) _
  have C0:Cells W0 w.heap.size #[.slice a p.sends.length c,.slice ar p.routes.length cr,.int .i64 p.pat] 51:=by rw [hW0];exact Cells.new _ _ _
  rw [hE] at bk
  have hne1:(E != 0)=true:=by simpa using hne
  clear hE
  go_enter Tryz.func74,Tryz.ntmps74
  go_wp2_with fail
  rw [← hW0]
  clear hW0
  go_at_call 94
  with_reducible refine (bk _ t0).mono ?_
  rintro e w1 ⟨rfl,hb1⟩
  have t1:Below w.heap.size w w1:=t0.trans (hb1.mono t0.size)
  have C1:=C0.below hb1
  have k0:=C1.cell 0
  have k1:=C1.cell 1
  have k2:=C1.cell 2
  have lC:=C1.lt
  simp at k0 k1 k2
  clear bk C0
  go_wp2_with fail
  go_ret
  exact ⟨rfl,t1⟩
set_option maxRecDepth 100000 in
set_option maxHeartbeats 4000000 in
theorem prove_a2 (a:Option Addr) (c:Nat) (ar:Option Addr) (cr:Nat) (p:Post) (at_:Option Addr) (t:List (List (List Int))) (ct:Nat) (al:Option Addr) (l:List Ent) (cl:Nat) (w:World) (hs:IntsAt w a p.sends) (hr:RoutesAt w ar p.routes) (sm:PostSmall p) (ht:TruthAt w at_ t) (st:TruthSmall t) (he:EntsAt w al l) (hl:l.length≤1000) (hE:bookErr p l=0) (E:Int) (hS:shapeErr p t=E) (hne:E≠0) :
    Calls Tryz.prog 74 #[.agg #[.slice a p.sends.length c,.slice ar p.routes.length cr,.int .i64 p.pat],.slice at_ t.length ct,.slice al l.length cl] w fun e w' => e=.returned (.bool false)∧Below w.heap.size w w':=by
  have bk:=fun W (b:Below w.heap.size w W) => booked_any a c ar cr p al l cl W (hs.below b) (hr.below b) sm (he.below b) (by omega)
  have shp:=fun W (b:Below w.heap.size w W) => shaped_any a c ar cr p at_ ct t W (hr.below b) (ht.below b) sm.s sm.r sm.l st.n st.l st.r
  obtain ⟨W0,hW0⟩:∃ z:World,z=w.alloc (.cells #[.slice a p.sends.length c,.slice ar p.routes.length cr,.int .i64 p.pat] 51):=⟨_,rfl⟩
  have t0:Below w.heap.size w W0:=by rw [hW0];exact (Below.refl _ _).alloc (Nat.le_refl _) _
  have C0:Cells W0 w.heap.size #[.slice a p.sends.length c,.slice ar p.routes.length cr,.int .i64 p.pat] 51:=by rw [hW0];exact Cells.new _ _ _
  rw [hE] at bk
  rw [hS] at shp
  have hne1:(E != 0)=true:=by simpa using hne
  clear hE hS
  go_enter Tryz.func74,Tryz.ntmps74
  go_wp2_with fail
  rw [← hW0]
  clear hW0
  go_at_call 94
  with_reducible refine (bk _ t0).mono ?_
  rintro e w1 ⟨rfl,hb1⟩
  have t1:Below w.heap.size w w1:=t0.trans (hb1.mono t0.size)
  have C1:=C0.below hb1
  have k0:=C1.cell 0
  have k1:=C1.cell 1
  have k2:=C1.cell 2
  have lC:=C1.lt
  simp at k0 k1 k2
  clear bk C0
  go_wp2_with fail
  go_at_call 134
  with_reducible refine (shp _ t1).mono ?_
  rintro e w2 ⟨rfl,hb2⟩
  have t2:Below w.heap.size w w2:=t1.trans (hb2.mono t1.size)
  have C2:=C1.below hb2
  have m0:=C2.cell 0
  have m1:=C2.cell 1
  have m2:=C2.cell 2
  have lD:=C2.lt
  simp at m0 m1 m2
  clear shp C1 k0 k1 k2 lC
  go_wp2_with fail
  go_ret
  exact ⟨rfl,t2⟩
set_option maxRecDepth 100000 in
set_option maxHeartbeats 4000000 in
theorem prove_a3 (a:Option Addr) (c:Nat) (ar:Option Addr) (cr:Nat) (p:Post) (at_:Option Addr) (t:List (List (List Int))) (ct:Nat) (al:Option Addr) (l:List Ent) (cl:Nat) (w:World) (hs:IntsAt w a p.sends) (hr:RoutesAt w ar p.routes) (sm:PostSmall p) (ht:TruthAt w at_ t) (st:TruthSmall t) (he:EntsAt w al l) (hl:l.length≤1000) (hE:bookErr p l=0) (hS:shapeErr p t=0) :
    Calls Tryz.prog 74 #[.agg #[.slice a p.sends.length c,.slice ar p.routes.length cr,.int .i64 p.pat],.slice at_ t.length ct,.slice al l.length cl] w fun e w' => e=.returned (.bool (explsB p t l))∧Below w.heap.size w w':=by
  have bk:=fun W (b:Below w.heap.size w W) => booked_any a c ar cr p al l cl W (hs.below b) (hr.below b) sm (he.below b) (by omega)
  have shp:=fun W (b:Below w.heap.size w W) => shaped_any a c ar cr p at_ ct t W (hr.below b) (ht.below b) sm.s sm.r sm.l st.n st.l st.r
  obtain ⟨W0,hW0⟩:∃ z:World,z=w.alloc (.cells #[.slice a p.sends.length c,.slice ar p.routes.length cr,.int .i64 p.pat] 51):=⟨_,rfl⟩
  have t0:Below w.heap.size w W0:=by rw [hW0];exact (Below.refl _ _).alloc (Nat.le_refl _) _
  have C0:Cells W0 w.heap.size #[.slice a p.sends.length c,.slice ar p.routes.length cr,.int .i64 p.pat] 51:=by rw [hW0];exact Cells.new _ _ _
  rw [hE] at bk
  rw [hS] at shp
  obtain ⟨hp0,l8,hall⟩:=bookErr_ok' hE
  have plk:=fun W (b:Below w.heap.size w W) => play_any a c ar cr p at_ ct t W (hs.below b) (hr.below b) (ht.below b) (playOk_of hp0 hS)
  have hlen:(playF p t).length=t.length:=playGo_len p t 0 0
  have hts:t.length=p.sends.length:=(playOk_of hp0 hS).n
  have hn4:=(postErr_ok hp0).1
  have Hexp:Hid (explsB p t l=l.all (explOk (playF p t))):=Lib.hid rfl
  have Hent:Hid (∀ e ∈ l,0≤e.num∧e.num < (t.length:Int)):=Lib.hid (fun e he => by
    have:=List.all_eq_true.1 hall e he
    simp only [entOk,Bool.and_eq_true] at this
    have:=inR_iff.1 this.1
    omega)
  obtain ⟨J,hJ⟩:∃ J,playF p t=J:=⟨_,rfl⟩
  rw [hJ] at plk hlen Hexp
  have Hlen:=Lib.hid hlen
  have lt4:t.length≤4:=by omega
  clear hE hS hJ hlen hts hall
  go_enter Tryz.func74,Tryz.ntmps74
  go_wp2_with fail
  rw [← hW0]
  clear hW0
  go_at_call 94
  with_reducible refine (bk _ t0).mono ?_
  rintro e w1 ⟨rfl,hb1⟩
  have t1:Below w.heap.size w w1:=t0.trans (hb1.mono t0.size)
  have C1:=C0.below hb1
  have k0:=C1.cell 0
  have k1:=C1.cell 1
  have k2:=C1.cell 2
  have lC:=C1.lt
  simp at k0 k1 k2
  clear bk C0
  go_wp2_with fail
  go_at_call 134
  with_reducible refine (shp _ t1).mono ?_
  rintro e w2 ⟨rfl,hb2⟩
  have t2:Below w.heap.size w w2:=t1.trans (hb2.mono t1.size)
  have C2:=C1.below hb2
  have m0:=C2.cell 0
  have m1:=C2.cell 1
  have m2:=C2.cell 2
  have lD:=C2.lt
  simp at m0 m1 m2
  clear shp C1 k0 k1 k2 lC
  go_wp2_with fail
  go_at_call 135
  refine (plk _ t2).mono ?_
  rintro e w3 ⟨⟨aj,cj,rfl,oj⟩,hb3⟩
  have t3:Below w.heap.size w w3:=t2.trans (hb3.mono t2.size)
  have iJ:=OwnL.ents oj
  clear plk C2 m0 m1 m2 lD
  obtain ⟨W4,hW4⟩:∃ z:World,z=w3.alloc (.cells #[.slice aj t.length cj] 52):=⟨_,rfl⟩
  have b4:Below w3.heap.size w3 W4:=by rw [hW4];exact (Below.refl _ _).alloc (Nat.le_refl _) _
  have C4:Cells W4 w3.heap.size #[.slice aj t.length cj] 52:=by rw [hW4];exact Cells.new _ _ _
  have t4:=t3.trans (b4.mono t3.size)
  have c4:=C4.cell 0
  simp at c4
  have hal:=all_entry al l cl 137 #[] #[.pointer (some ⟨w3.heap.size,0,none⟩)] (explOk J) W4 (by omega) (he.below t4) (enters Tryz.func137 (by kernel_rfl) rfl) (fun x hx => explOk_meets aj J t.length cj w3.heap.size W4 c4 (iJ.below b4) Hlen (by omega) x (Hent.out x hx).1 (Hent.out x hx).2)
  rw [← Hexp.out] at hal
  go_wp2_with fail
  rw [← hW4]
  go_at_call 136
  refine hal.mono ?_
  rintro e w5 ⟨rfl,hb5⟩
  go_wp2_with fail
  go_ret
  exact ⟨rfl,t4.trans (hb5.mono t4.size)⟩
theorem prove_eq (a:Option Addr) (c:Nat) (ar:Option Addr) (cr:Nat) (p:Post) (at_:Option Addr) (t:List (List (List Int))) (N ct:Nat) (al:Option Addr) (l:List Ent) (cl:Nat) (w:World) (B:Bool) (hB:Hid (proveB p t l=B)) (hN:Hid (t.length=N)) (hs:IntsAt w a p.sends) (hr:RoutesAt w ar p.routes) (sm:Hid (PostSmall p)) (ht:TruthAt w at_ t) (st:Hid (TruthSmall t)) (he:EntsAt w al l) (hl:l.length≤1000) :
    Calls Tryz.prog 74 #[.agg #[.slice a p.sends.length c,.slice ar p.routes.length cr,.int .i64 p.pat],.slice at_ N ct,.slice al l.length cl] w fun e w' => e=.returned (.bool B)∧Below w.heap.size w w':=by
  rw [← hB.out,← hN.out]
  by_cases h0:bookErr p l=0
  · by_cases h1:shapeErr p t=0
    · rw [show proveB p t l=explsB p t l by unfold proveB;simp [h0,h1]]
      exact prove_a3 a c ar cr p at_ t ct al l cl w hs hr sm.out ht st.out he hl h0 h1
    · rw [show proveB p t l=false by unfold proveB;simp [h1]]
      exact prove_a2 a c ar cr p at_ t ct al l cl w hs hr sm.out ht st.out he hl h0 _ rfl h1
  · rw [show proveB p t l=false by unfold proveB;simp [h0]]
    exact prove_a1 a c ar cr p at_ t ct al l cl w hs hr sm.out ht st.out he hl _ rfl h0
end Go.Proofs.YticjeianiahppaaGreatDoor.Cps
namespace Go.Proofs.YticjeianiahppaaGreatDoor.Cps
open Go.RowKit Go.Flow
theorem odd_none {p:Post} {l:List Ent} (hz:(searchF p l).isSome=true):oddF p l=[]:=by
  refine oddF_some (k:=0) (by omega) (fun j hj => by omega) ?_
  exact leave_none hz l.length 0 (by omega)
end Go.Proofs.YticjeianiahppaaGreatDoor.Cps
