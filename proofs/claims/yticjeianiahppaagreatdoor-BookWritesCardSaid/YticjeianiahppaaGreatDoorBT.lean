/- The session book: contracts of the program and of the laws' helpers, joined (Na, Tb, Tc, Td, Te). -/
import Derived.Test.YticjeianiahppaaGreatDoorBP
import Derived.Test.YticjeianiahppaaGreatDoorBS
import Derived.Test.YticjeianiahppaaGreatDoorBQ
import Derived.Test.YticjeianiahppaaGreatDoorBD
set_option linter.unusedVariables false
set_option linter.unusedSimpArgs false
set_option linter.unnecessarySimpa false
namespace Go.Proofs.YticjeianiahppaaGreatDoor
open Go.RowKit Go.Flow
theorem zPJ (s:List UInt8):numF s=numD s:=zK4 s
theorem zI9 (s:ByteArray):(zB6 s).map (·.data.toList)=spl s.data.toList:=by
 unfold zB6
 rw [Lib.splitB_data,← zKM]
 show Lib.splitK [32] 0 (Lib.count s.data.toList [32]) _=_
 rw [Lib.count_one]
def zG4 (s:List UInt8):Option (Cmd × List Int) :=
 match spl s with
 | [] => none
 | x :: r => match zDp x with
  | none => none
  | some c => if r.length=c.many then (r.mapM numD).map fun n => (c,n) else none
theorem zHq (s:ByteArray):zAa s=zG4 s.data.toList:=by
 unfold zAa zG4
 rw [← zI9]
 cases zB6 s with
 | nil => rfl
 | cons x r =>
  simp only [List.map_cons,List.length_map]
  cases zDp x.data.toList with
  | none => rfl
  | some c =>
   simp only []
   have h:(r.map (·.data.toList)).mapM numD=r.mapM fun y => numF y.data.toList:=by
    induction r with
    | nil => rfl
    | cons y t ih => simp only [List.map_cons,List.mapM_cons,ih,zPJ]
   rw [h]
def zQE (c:Cmd) (n:List Int):List UInt8:=c.word ++ n.flatMap fun x => 32 :: Lib.itoa x
theorem zLW (c:Cmd):(32:UInt8) ∉ c.word:=by cases c <;> decide
theorem zNd (a:List UInt8) (h:32 ∉ a) (n:List Int):spl (a ++ n.flatMap fun x => 32 :: Lib.itoa x)=a :: n.map Lib.itoa:=by
 induction n generalizing a with
 | nil => simpa using zNc h
 | cons x t ih =>
  rw [List.flatMap_cons,List.cons_append,zNe h,ih _ (zM5 x),List.map_cons]
theorem zPt (c:Cmd) (n:List Int) (hn:n.length=c.many) (hb:∀ x ∈ n,-1000000000 < x∧x < 1000000000):zG4 (zQE c n)=some (c,n):=by
 unfold zG4 zQE
 rw [zNd _ (zLW c)]
 simp only [zJw,List.length_map]
 rw [if_pos hn]
 have h:(n.map Lib.itoa).mapM numD=some n:=by
  clear hn
  induction n with
  | nil => rfl
  | cons x t ih =>
   rw [List.map_cons,List.mapM_cons,zMG (hb x (by simp)).1 (hb x (by simp)).2,ih (fun y hy => hb y (by simp [hy]))];rfl
 rw [h];rfl
theorem zCE {S:BSt} {s:ByteArray} (h:zBb S s≠0):zAy S s=S:=by
 unfold zBb at h
 unfold zAy
 cases hp:zAa s with
 | none => rfl
 | some x =>
  rw [hp] at h
  exact if_neg h
def zB0 (S:BSt):List ByteArray→List ByteArray
 | [] => []
 | s :: l => if zBb S s=0 then s :: zB0 (zAy S s) l else zB0 (zAy S s) l
theorem zBh (S:BSt) (s:ByteArray) (l:List ByteArray):zBa S (s :: l)=zBa (zAy S s) l:=rfl
theorem zQC (S:BSt) (l r:List ByteArray):zBa S (l ++ r)=zBa (zBa S l) r:=by simp [zBa]
theorem zLr (S:BSt) (l r:List ByteArray):zCO S (l ++ r)=zCO S l ++ zCO (zBa S l) r:=by
 induction l generalizing S with
 | nil => rfl
 | cons s l ih => simp [zCO,ih,zBh]
theorem zPu (S:BSt) (l:List ByteArray):zBa S (zB0 S l)=zBa S l:=by
 induction l generalizing S with
 | nil => rfl
 | cons s l ih =>
  unfold zB0
  split
  ·rw [zBh,zBh,ih]
  ·rename_i h
   rw [zBh,zCE h,ih]
theorem zPZ (S:BSt) (l:List ByteArray):zCO S (zB0 S l)=List.replicate (zB0 S l).length 0:=by
 induction l generalizing S with
 | nil => rfl
 | cons s l ih =>
  unfold zB0
  split
  ·rename_i h
   rw [zCO,h,ih,List.length_cons,List.replicate_succ]
  ·rename_i h
   rw [zCE h,ih]
theorem zJm {S:BSt} {s:ByteArray} {l:List ByteArray} (h:zBb S s=0):zB0 S (s :: l)=s :: zB0 (zAy S s) l:=if_pos h
theorem zPY {S:BSt} {s:ByteArray} {l:List ByteArray} (h:zBb S s≠0):zB0 S (s :: l)=zB0 S l:=by
 have:zB0 S (s :: l)=zB0 (zAy S s) l:=if_neg h
 rw [this,zCE h]
theorem zQF (S:BSt) (l:List ByteArray):zB0 S (zB0 S l)=zB0 S l:=by
 induction l generalizing S with
 | nil => rfl
 | cons s l ih =>
  by_cases h:zBb S s=0
  ·rw [zJm h,zJm h,ih]
  ·rw [zPY h,ih]
theorem zOG (S:BSt) (l:List ByteArray):(zB0 S l).length≤l.length:=by
 induction l generalizing S with
 | nil => exact Nat.le_refl _
 | cons s l ih =>
  unfold zB0
  split
  ·exact Nat.succ_le_succ (ih _)
  ·exact Nat.le_succ_of_le (ih _)
theorem zQ1 (S:BSt) (l:List ByteArray):∀ s ∈ zB0 S l,s ∈ l:=by
 induction l generalizing S with
 | nil => intro s h;exact h
 | cons x l ih =>
  intro s h
  unfold zB0 at h
  split at h
  ·rcases List.mem_cons.1 h with rfl | h
   ·exact List.mem_cons_self
   ·exact List.mem_cons_of_mem _ (ih _ s h)
  ·exact List.mem_cons_of_mem _ (ih _ s h)
theorem zM4 (S:BSt) (l:List ByteArray) (s:ByteArray):zB0 S (l ++ [s])=zB0 S l ++ (if zBb (zBa S l) s=0 then [s] else []):=by
 induction l generalizing S with
 | nil =>
  rw [List.nil_append]
  unfold zB0
  rfl
 | cons x l ih =>
  rw [List.cons_append]
  unfold zB0
  rw [ih,zBh]
  split <;> rfl
theorem zOL {l l' : List Cps.Ent} (h:∀ x ∈ l',x ∈ l) {e:Cps.Ent} {i:Nat} (hf:Cps.zJC l e i=true):Cps.zJC l' e i=true:=by
 unfold Cps.zJC at *
 rw [Bool.not_eq_true',List.any_eq_false] at *
 exact fun x hx => hf x (h x hx)
theorem zJd {p:Cps.Post} {l l' : List Cps.Ent} (h:∀ x ∈ l',x ∈ l):∀ (r i:Nat) (f:Int),(Cps.zB5 p l r i f).isSome=true→(Cps.zB5 p l' r i f).isSome=true
 | 0,_,_,_ => rfl
 | r + 1,i,f,hs => by
  rw [Cps.zMH] at *
  obtain ⟨k,h1,h2,h3,h4⟩:=hs
  exact ⟨k,h1,h2,zOL h h3,zJd h r _ _ h4⟩
theorem zOX {p q:Cps.Post} (hr:q.routes=p.routes) {i:Nat} (hs:q.sends.getD i 0=p.sends.getD i 0) (h:Nat):Cps.canB q i h=Cps.canB p i h:=by
 have e1:∀ k,Cps.hrF q i k=Cps.hrF p i k:=fun k => by unfold Cps.hrF;rw [hr,hs]
 have e2:∀ k,Cps.badK q i h k=Cps.badK p i h k:=fun k => by unfold Cps.badK Cps.zCy;rw [hr,e1]
 have e3:∀ k,Cps.zDx q i h k=Cps.zDx p i h k:=fun k => by unfold Cps.zDx;simp only [e1]
 unfold Cps.canB
 simp only [e2,e3,hr]
theorem zHk {p q:Cps.Post} (hp:q.pat=p.pat) {i:Nat} (hs:q.sends.getD i 0=p.sends.getD i 0) (f h:Int):Cps.zC7 q i f h=Cps.zC7 p i f h:=by
 simp only [Cps.zC7,hp,hs]
theorem zHt {p q:Cps.Post} {l:List Cps.Ent} (hr:q.routes=p.routes) (hp:q.pat=p.pat) {x:Int} (hs:q.sends=p.sends ++ [x]) (h0:Cps.zA4 q=0) (hl:∀ e ∈ l,e.num≠(p.sends.length:Int)) :
  ∀ (r i:Nat) (f:Int),i + r=p.sends.length→(Cps.zB5 p l r i f).isSome=true→(Cps.zB5 q l (r + 1) i f).isSome=true
 | 0,i,f,hi,_ => by
  obtain ⟨m,hm,_,hc,_⟩:=Cps.zPV h0 (show i < q.sends.length by rw [hs];simp;omega)
  rw [Cps.zMH]
  refine ⟨m,by omega,hc,?_,rfl⟩
  unfold Cps.zJC
  rw [Bool.not_eq_true',List.any_eq_false]
  intro e he
  have:=hl e he
  unfold Cps.zFS
  simp only [Nat.add_zero] at hi
  rw [hi]
  simp [this]
 | r + 1,i,f,hi,h => by
  have hg:q.sends.getD i 0=p.sends.getD i 0:=by
   rw [hs,List.getD_eq_getElem?_getD,List.getD_eq_getElem?_getD,List.getElem?_append_left (by omega)]
  rw [Cps.zMH] at *
  obtain ⟨k,h1,h2,h3,h4⟩:=h
  refine ⟨k,h1,by rw [zOX hr hg];exact h2,by rw [zHk hp hg];exact h3,?_⟩
  rw [zHk hp hg]
  exact zHt hr hp hs h0 hl r (i + 1) _ (by omega) h4
theorem zMj {p:Cps.Post} {l:List Cps.Ent}:Cps.zCa p l=0↔Cps.zA7 p l=0∧(Cps.zDI p l).isSome=true:=by
 unfold Cps.zCa Cps.zOR
 by_cases h:Cps.zA7 p l=0
 ·rw [if_neg (by simpa using h)]
  cases (Cps.zDI p l).isSome <;> simp [h]
 ·rw [if_pos h];simp [h]
theorem zNH {p:Cps.Post} {l:List Cps.Ent}:Cps.zA7 p l=0↔Cps.zA4 p=0∧l.length≤8∧l.all (Cps.zIM p.sends.length)=true:=by
 refine ⟨Cps.zEh,fun ⟨h1,h2,h3⟩ => ?_⟩
 unfold Cps.zA7
 rw [if_neg (by simpa using h1),if_neg (by omega),h3];rfl
theorem zE2:∀ (l:List Int) (x:Int),Cps.zDJ l=true→(l=[]∨l.getD (l.length - 1) 0 < x)→Cps.zDJ (l ++ [x])=true
 | [],_,_,_ => rfl
 | [a],x,_,h => by
  rcases h with h | h
  ·cases h
  ·simp at h
   simp [Cps.zDJ,h]
 | a :: b :: l,x,hr,h => by
  simp only [Cps.zDJ,Bool.and_eq_true] at hr
  have:=zE2 (b :: l) x hr.2 (.inr (by
   rcases h with h | h
   ·cases h
   ·simpa using h))
  simp only [List.cons_append] at this ⊢
  simp only [Cps.zDJ,Bool.and_eq_true]
  exact ⟨hr.1,this⟩
theorem zLp {p:Cps.Post} {x:Int} (h:Cps.zA4 p=0) (hx:betB x 0 30=true) (hn:p.sends.length=0∨p.sends.getD (p.sends.length - 1) 0 < x) (h4:p.sends.length < 4):Cps.zA4 { p with sends:=p.sends ++ [x] }=0:=by
 unfold Cps.zA4 at *
 split at h
 ·cases h
 rename_i h1
 split at h
 ·cases h
 rename_i h2
 simp only [not_or] at h1 h2
 simp only [betB,Bool.and_eq_true,decide_eq_true_eq] at hx
 rw [if_neg,if_neg]
 ·simp only [not_or]
  refine ⟨by simp,h2.2.1,h2.2.2.1,?_,?_,h2.2.2.2.2.2⟩
  ·have:=h2.2.2.2.1
   rw [Bool.not_eq_false] at this ⊢
   rw [List.all_append,this]
   simp [Cps.inR,hx]
  ·have:=h2.2.2.2.2.1
   rw [Bool.not_eq_false] at this ⊢
   exact zE2 _ _ this (hn.imp (fun h => List.eq_nil_of_length_eq_zero h) id)
 ·simp only [not_or]
  exact ⟨by simp;omega,h1.2⟩
theorem zMk {S:BSt} {c:Cmd} {n:List Int} (hS:zBB S=true) (h:errL S c n=0):zBB (nxtC S c n)=true:=by
 unfold errL at h
 split at h
 ·rename_i h0
  by_cases ha:c.asks=true
  ·rw [ha] at h
   cases hx:zBB (nxtC S c n)
   ·rw [hx] at h;cases h
   ·rfl
  ·have hl:=zHN h0
   cases c
   all_goals first | exact absurd rfl ha | skip
   case send =>
    match n,hl with
    | [x],_ =>
     obtain ⟨a1,h0⟩:=zAE (by decide) h0
     obtain ⟨a2,h0⟩:=zAE (by decide) h0
     obtain ⟨a3,_⟩:=zAE (by decide) h0
     simp only [Bool.or_eq_true,decide_eq_true_eq] at a2 a3
     unfold zBB at hS ⊢
     rw [Bool.or_eq_true,decide_eq_true_eq,decide_eq_true_eq] at hS ⊢
     rcases hS with hj | he
     ·exact .inl hj
     ·refine .inr ?_
      rw [zMj,zNH] at he ⊢
      obtain ⟨⟨e1,e2,e3⟩,e4⟩:=he
      have hq:=zLp e1 a1 a2 a3
      refine ⟨⟨hq,e2,?_⟩,?_⟩
      ·rw [List.all_eq_true] at e3 ⊢
       intro e he
       have:=e3 e he
       simp only [Cps.zIM,Cps.inR,nxtC,List.length_append,List.length_singleton,Bool.and_eq_true,decide_eq_true_eq] at this ⊢
       omega
      ·have hm:=zHt (p:=S.post) (q:={ S.post with sends:=S.post.sends ++ [x] }) rfl rfl rfl hq (l:=S.journal) (fun e he => by
        have:=(List.all_eq_true.1 e3) e he
        simp only [Cps.zIM,Cps.inR,Bool.and_eq_true,decide_eq_true_eq] at this
        omega) S.post.sends.length 0 0 (by omega) e4
       unfold Cps.zDI
       show (Cps.zB5 { S.post with sends:=S.post.sends ++ [x] } S.journal (S.post.sends ++ [x]).length 0 0).isSome=true
       rw [List.length_append,List.length_singleton]
       exact hm
   case strike =>
    match n,hl with
    | [k],_ =>
     have hsub:∀ x ∈ zDn S.journal k,x ∈ S.journal:=fun x hx => by
      unfold zDn at hx
      rcases List.mem_append.1 hx with hx | hx
      ·exact List.mem_of_mem_take hx
      ·exact List.mem_of_mem_drop hx
     unfold zBB at hS ⊢
     rw [Bool.or_eq_true,decide_eq_true_eq,decide_eq_true_eq] at hS ⊢
     rcases hS with hj | he
     ·exact .inl (by show zDn S.journal k=[];rw [hj];simp [zDn])
     ·refine .inr ?_
      rw [zMj,zNH] at he ⊢
      obtain ⟨⟨e1,e2,e3⟩,e4⟩:=he
      refine ⟨⟨e1,Nat.le_trans (zFy _ _) e2,?_⟩,zJd hsub _ _ _ e4⟩
      rw [List.all_eq_true] at e3 ⊢
      exact fun e he => e3 e (hsub e he)
   all_goals
    rcases n with _ | ⟨n0,_ | ⟨n1,_ | ⟨n2,_ | ⟨n3,_ | ⟨n4,n⟩⟩⟩⟩⟩
    all_goals exact hS
 ·rename_i h0
  exact absurd h h0
theorem zMm {S:BSt} (hS:zBB S=true) (s:ByteArray):zBB (zAy S s)=true:=by
 by_cases h:zBb S s=0
 ·unfold zBb at h
  unfold zAy
  cases hp:zAa s with
  | none => exact hS
  | some x =>
   rw [hp] at h
   show zBB (if errL S x.1 x.2=0 then nxtC S x.1 x.2 else S)=true
   rw [if_pos h]
   exact zMk hS h
 ·rw [zCE h];exact hS
theorem zQK {S:BSt} (hS:zBB S=true) (l:List ByteArray):zBB (zBa S l)=true:=by
 induction l generalizing S with
 | nil => exact hS
 | cons s l ih => exact ih (zMm hS s)
theorem zEL {S:BSt} {s:ByteArray} {c:Cmd} {n:List Int} (h:zAa s=some (c,n)):zBb S s=errL S c n:=zE7 h
theorem zEK {S:BSt} {s:ByteArray} {c:Cmd} {n:List Int} (h:zAa s=some (c,n)):zAy S s=if errL S c n=0 then nxtC S c n else S:=by unfold zAy;rw [h]
theorem zJu {α:Type} (l:List α) (x:α):zDn (l ++ [x]) (l.length:Int)=l:=by
 unfold zDn
 simp
theorem zM8 (n:Nat):idxB (n:Int) n=false:=by unfold idxB;simp;omega
theorem zJp (n:Nat):idxB (n:Int) (n + 1)=true:=by unfold idxB;simp
theorem zPz {S:BSt} {s t:ByteArray} {a b:Int} (h1:zAa s=some (.lost,[a,b])) (h2:zAa t=some (.found,[(S.lost.length:Int)])) :
  zAy (zAy S s) t=S∧(zBb S s=0↔zBb (zAy S s) t=0):=by
 rw [zEL h1,zEL h2,zEK h2,zEK h1]
 by_cases h:errL S .lost [a,b]=0
 ·rw [if_pos h]
  have e:errL (nxtC S .lost [a,b]) .found [(S.lost.length:Int)]=0:=by
   simp [errL,errC,nxtC,chain,zJp,Cmd.asks]
  rw [if_pos e]
  refine ⟨?_,by simp [h,e]⟩
  simp only [nxtC,zJu]
 ·rw [if_neg h]
  have e:errL S .found [(S.lost.length:Int)]≠0:=by
   simp [errL,errC,chain,zM8]
  rw [if_neg e]
  exact ⟨rfl,by simp [h,e]⟩
theorem zQA {S:BSt} {s t:ByteArray} {c:Cmd} {a b:Int} (hc:c=.came∨c=.skipped) (h1:zAa s=some (c,[a,b])) (h2:zAa t=some (.strike,[(S.journal.length:Int)])) :
  zAy (zAy S s) t=S∧(zBb S s=0↔zBb (zAy S s) t=0):=by
 rw [zEL h1,zEL h2,zEK h2,zEK h1]
 by_cases h:errL S c [a,b]=0
 ·rw [if_pos h]
  have e:errL (nxtC S c [a,b]) .strike [(S.journal.length:Int)]=0:=by
   rcases hc with rfl | rfl <;> simp [errL,errC,nxtC,chain,zJp,Cmd.asks]
  rw [if_pos e]
  refine ⟨?_,by simp [h,e]⟩
  rcases hc with rfl | rfl <;> simp only [nxtC,zJu]
 ·rw [if_neg h]
  have e:errL S .strike [(S.journal.length:Int)]≠0:=by
   simp [errL,errC,chain,zM8]
  rw [if_neg e]
  exact ⟨rfl,by simp [h,e]⟩
inductive Part where
 | codes | post | journal | account
 deriving DecidableEq
def Cmd.part:Cmd→Part
 | .book | .key | .day | .lost | .found => .codes
 | .rate | .paid | .passed | .words => .account
 | .came | .skipped | .strike => .journal
 | _ => .post
structure SameCodes (S T:BSt):Prop where
 size:T.size=S.size
 words:T.words=S.words
 keys:T.keys=S.keys
 days:T.days=S.days
 lost:T.lost=S.lost
structure SameAcc (S T:BSt):Prop where
 rate:T.rate=S.rate
 keeps:T.keeps=S.keeps
 ds:T.ds=S.ds
theorem zFh (S:BSt) (c:Cmd) (n:List Int):(c.part≠.codes→SameCodes S (nxtC S c n))∧(c.part≠.post→(nxtC S c n).post=S.post)∧(c.part≠.account→SameAcc S (nxtC S c n)):=by
 cases c
 all_goals
  rcases n with _ | ⟨n0,_ | ⟨n1,_ | ⟨n2,_ | ⟨n3,_ | ⟨n4,n⟩⟩⟩⟩⟩
  all_goals exact ⟨fun h => by first | exact absurd rfl h | exact ⟨rfl,rfl,rfl,rfl,rfl⟩,fun h => by first | exact absurd rfl h | exact rfl,fun h => by first | exact absurd rfl h | exact ⟨rfl,rfl,rfl⟩⟩
theorem zQD (S:BSt) (s:ByteArray):(∀ c n,zAa s=some (c,n)→c.part≠.codes)→SameCodes S (zAy S s):=by
 intro h
 unfold zAy
 cases hp:zAa s with
 | none => exact ⟨rfl,rfl,rfl,rfl,rfl⟩
 | some x =>
  obtain ⟨c,n⟩:=x
  show SameCodes S (if _ then _ else _)
  split
  ·exact (zFh S c n).1 (h c n hp)
  ·exact ⟨rfl,rfl,rfl,rfl,rfl⟩
theorem zPs (S:BSt) (s:ByteArray):(∀ c n,zAa s=some (c,n)→c.part≠.post)→(zAy S s).post=S.post:=by
 intro h
 unfold zAy
 cases hp:zAa s with
 | none => rfl
 | some x =>
  obtain ⟨c,n⟩:=x
  show (if _ then _ else _:BSt).post=S.post
  split
  ·exact (zFh S c n).2.1 (h c n hp)
  ·rfl
theorem zPr (S:BSt) (s:ByteArray):(∀ c n,zAa s=some (c,n)→c.part≠.account)→SameAcc S (zAy S s):=by
 intro h
 unfold zAy
 cases hp:zAa s with
 | none => exact ⟨rfl,rfl,rfl⟩
 | some x =>
  obtain ⟨c,n⟩:=x
  show SameAcc S (if _ then _ else _)
  split
  ·exact (zFh S c n).2.2 (h c n hp)
  ·exact ⟨rfl,rfl,rfl⟩
def zNJ (s w:Int):Prop:=(13≤s∧s≤41)∧Cph.zC9 s.toNat s.toNat=true∧(1≤w∧w≤s)
structure ValC (S:BSt):Prop where
 base:(S.size=0∧S.keys=[])∨zNJ S.size S.words
 keys:S.keys.all (Cph.zOF S.size)=true
 days:S.days.all (Cph.zHr S.keys.length)=true
 lost:∀ x ∈ S.lost,(0≤x.1∧x.1≤(S.keys.length:Int) - 1)∧(0≤x.2∧x.2≤(S.days.length:Int) - 1)
structure ValP (p:Cps.Post):Prop where
 sends:p.sends.all (fun n => Cps.inR n (0,30))=true
 rises:Cps.zDJ p.sends=true
 pat:Cps.inR p.pat (0,30)=true
 routes:p.routes.all Cps.zBv=true
structure ValA (a:Pay.Acc):Prop where
 st:a.st=7
 rate:Pay.inR a.rate 0 20=true
 keeps:Pay.inR a.keeps 0 100=true
 ds:a.ds.all (Pay.disB 7)=true
structure Val (S:BSt):Prop where
 codes:ValC S
 post:ValP S.post
 acc:ValA S.acc
theorem Val.begun:Val BSt.begun :=
 ⟨⟨.inl ⟨rfl,rfl⟩,rfl,rfl,by simp [BSt.begun]⟩,⟨rfl,rfl,rfl,rfl⟩,⟨rfl,rfl,rfl,rfl⟩⟩
theorem Val.book {S:BSt} (V:Val S) (F:Few S) (h:S.days≠[]):Cph.zA7 S.size S.words S.keys S.days=0:=by
 have hk:S.keys≠[]:=fun e => by
  cases hd:S.days with
  | nil => exact h hd
  | cons x t =>
   have:=V.codes.days
   rw [hd,e] at this
   simp [Cph.zHr] at this
   omega
 have hb:zNJ S.size S.words:=by
  rcases V.codes.base with ⟨_,e⟩ | e
  ·exact absurd e hk
  ·exact e
 have:=F.keys
 have:=F.days
 unfold Cph.zA7
 rw [if_neg (by omega),if_pos ⟨hb.1,hb.2.1,hb.2.2,hk,h,V.codes.keys,V.codes.days⟩]
theorem Val.posted {S:BSt} (V:Val S) (F:Few S) (h1:S.post.sends≠[]) (h2:S.post.routes≠[]):Cps.zA4 S.post=0:=by
 have f1:=F.sends
 have f2:=F.routes
 have f3:S.post.routes.all Cps.zBo=true:=by
  rw [List.all_eq_true]
  intro r hr
  unfold Cps.zBo
  rw [Bool.and_eq_true,decide_eq_true_eq,List.all_eq_true]
  exact ⟨F.legs r hr,fun l hl => by simpa using F.asl r hr l hl⟩
 unfold Cps.zA4
 rw [if_neg,if_neg]
 ·simp only [not_or,Bool.not_eq_false]
  exact ⟨h1,h2,V.post.pat,V.post.sends,V.post.rises,V.post.routes⟩
 ·simp only [not_or,Bool.not_eq_false]
  exact ⟨by omega,by omega,f3⟩
theorem Val.paid {S:BSt} (V:Val S) (F:Few S):Pay.zEW S.acc=0:=by
 have f1:S.acc.ds.all Pay.fewB=true:=by
  rw [List.all_eq_true]
  intro d hd
  simpa [Pay.fewB] using F.passed d hd
 have f2:S.acc.ds.length≤6:=F.ds
 have f3:=V.acc.st
 unfold Pay.zEW
 rw [if_neg,if_neg]
 ·simp only [not_or,Bool.not_eq_false]
  exact ⟨by omega,V.acc.rate,V.acc.keeps,by rw [f3];exact V.acc.ds⟩
 ·simp only [not_or,Bool.not_eq_false]
  exact ⟨by omega,by omega,f1⟩
theorem zIU {s w:Int} {ks:List (Int × Int × Int)} {ds:List Int} (h:Cph.zA7 s w ks ds=0):zNJ s w∧ks.all (Cph.zOF s)=true:=by
 unfold Cph.zA7 at h
 split at h
 ·cases h
 ·split at h
  ·rename_i h1
   exact ⟨⟨h1.1,h1.2.1,h1.2.2.1⟩,h1.2.2.2.2.2.1⟩
  ·cases h
theorem zO4 {n m:Nat} (h:n≤m) {l:List Int} (hl:l.all (Cph.zHr n)=true):l.all (Cph.zHr m)=true:=by
 rw [List.all_eq_true] at *
 intro x hx
 have:=hl x hx
 simp only [Cph.zHr,Bool.and_eq_true,decide_eq_true_eq] at *
 omega
theorem zGD {α:Type} {P:α→Bool} {l:List α} {k:Int} {f:α→α} (h:l.all P=true) (hf:∀ x ∈ l,l[k.toNat]?=some x→P (f x)=true):(putAt l k f).all P=true:=by
 rw [List.all_eq_true] at *
 intro x hx
 rcases zBr hx with hx | ⟨y,hy,rfl⟩
 ·exact h x hx
 ·exact hf y (List.mem_of_getElem? hy) hy
theorem zJ5 {a b:Int} (h:zCJ a b 6=true):Cps.zDC ⟨a,b,[]⟩=true:=by
 simp only [zCJ,Bool.and_eq_true,decide_eq_true_eq] at h
 simp only [Cps.zDC,Cps.zCk,List.all_nil,Bool.and_eq_true,decide_eq_true_eq,Bool.and_true]
 exact h
theorem zMB {st:Int} {l:List Int} {x:Int} (h:Pay.zK2 st l=true) (hx:Pay.inR x 0 (st - 1)=true) (hn:l.contains x=false):Pay.zK2 st (l ++ [x])=true:=by
 unfold Pay.zK2 at *
 rw [List.all_eq_true] at *
 intro k hk
 rw [List.mem_range,List.length_append,List.length_singleton] at hk
 by_cases hl:k < l.length
 ·have:=h k (List.mem_range.2 hl)
  rw [List.getD_eq_getElem?_getD,List.getElem?_append_left hl,List.take_append_of_le_length (by omega),← List.getD_eq_getElem?_getD]
  exact this
 ·obtain rfl:k=l.length:=by omega
  rw [List.getD_eq_getElem?_getD,List.getElem?_append_right (Nat.le_refl _),Nat.sub_self,List.take_left]
  simp only [zzJ,Option.getD_some,Bool.and_eq_true]
  exact ⟨hx,by rw [hn];rfl⟩
theorem zNV {a:Pay.Acc} (h:Pay.zEW a=0):Pay.inR a.rate 0 20=true∧Pay.inR a.keeps 0 100=true∧a.ds.all (Pay.disB a.st)=true:=by
 unfold Pay.zEW at h
 split at h
 ·cases h
 ·split at h
  ·cases h
  ·rename_i h1
   simp only [not_or,Bool.not_eq_false] at h1
   exact ⟨h1.2.1,h1.2.2.1,h1.2.2.2⟩
theorem zN6 {S:BSt} {c:Cmd} {n:List Int} (V:Val S) (h:errC S c n=0):Val (nxtC S c n):=by
 have hl:=zHN h
 obtain ⟨C,P,A⟩:=V
 cases c
 case «book» =>
  match n,hl with
  | [s,w],_ =>
   obtain ⟨h1,_⟩:=zAE (by decide) h
   rw [decide_eq_true_eq] at h1
   exact ⟨⟨.inr (zIU h1).1,rfl,rfl,by simp [nxtC]⟩,P,A⟩
 case «key» =>
  match n,hl with
  | [m,a,t],_ =>
   obtain ⟨_,h⟩:=zAE (by decide) h
   obtain ⟨h1,_⟩:=zAE (by decide) h
   rw [decide_eq_true_eq] at h1
   obtain ⟨hb,hk⟩:=zIU h1
   simp only [List.all_cons,List.all_nil,Bool.and_true] at hk
   refine ⟨⟨.inr hb,?_,zO4 (by simp [nxtC]) C.days,fun x hx => ?_⟩,P,A⟩
   ·simp only [nxtC,List.all_append,C.keys,List.all_cons,hk,List.all_nil];rfl
   ·have:=C.lost x hx
    simp only [nxtC,List.length_append,List.length_singleton]
    omega
 case «day» =>
  match n,hl with
  | [k],_ =>
   obtain ⟨h1,_⟩:=zAE (by decide) h
   simp only [idxB,Bool.and_eq_true,decide_eq_true_eq] at h1
   refine ⟨⟨C.base,C.keys,?_,fun x hx => ?_⟩,P,A⟩
   ·simp only [nxtC,List.all_append,C.days,List.all_cons,List.all_nil,Cph.zHr,Bool.and_true,Bool.true_and,Bool.and_eq_true,decide_eq_true_eq]
    exact h1
   ·have:=C.lost x hx
    simp only [nxtC,List.length_append,List.length_singleton]
    omega
 case «lost» =>
  match n,hl with
  | [k,d],_ =>
   obtain ⟨h1,_⟩:=zAE (by decide) h
   simp only [idxB,Bool.and_eq_true,decide_eq_true_eq] at h1
   refine ⟨⟨C.base,C.keys,C.days,fun x hx => ?_⟩,P,A⟩
   rcases List.mem_append.1 hx with hx | hx
   ·exact C.lost x hx
   ·simp at hx;subst hx;exact h1
 case «found» =>
  match n,hl with
  | [k],_ =>
   refine ⟨⟨C.base,C.keys,C.days,fun x hx => ?_⟩,P,A⟩
   unfold nxtC zDn at hx
   rcases List.mem_append.1 hx with hx | hx
   ·exact C.lost x (List.mem_of_mem_take hx)
   ·exact C.lost x (List.mem_of_mem_drop hx)
 case «send» =>
  match n,hl with
  | [x],_ =>
   obtain ⟨h1,h⟩:=zAE (by decide) h
   obtain ⟨h2,_⟩:=zAE (by decide) h
   simp only [betB,Bool.and_eq_true,Bool.or_eq_true,decide_eq_true_eq] at h1 h2
   refine ⟨⟨C.base,C.keys,C.days,C.lost⟩,⟨?_,zE2 _ _ P.rises (h2.imp (fun h => List.eq_nil_of_length_eq_zero h) id),P.pat,P.routes⟩,A⟩
   have h3:Cps.inR x (0,30)=true:=by simp only [Cps.inR,Bool.and_eq_true,decide_eq_true_eq];exact h1
   simp only [nxtC,List.all_append,P.sends,List.all_cons,List.all_nil,h3]
   rfl
 case «route» =>
  match n,hl with
  | [y,a,b],_ =>
   obtain ⟨h1,_⟩:=zAE (by decide) h
   refine ⟨⟨C.base,C.keys,C.days,C.lost⟩,⟨P.sends,P.rises,P.pat,?_⟩,A⟩
   simp only [nxtC,List.all_append,P.routes,List.all_cons,List.all_nil,Cps.zBv,zJ5 h1]
   rfl
 case «leg» =>
  match n,hl with
  | [r,a,b],_ =>
   obtain ⟨_,h⟩:=zAE (by decide) h
   obtain ⟨h1,_⟩:=zAE (by decide) h
   refine ⟨⟨C.base,C.keys,C.days,C.lost⟩,⟨P.sends,P.rises,P.pat,zGD P.routes fun x hx _ => ?_⟩,A⟩
   have:=(List.all_eq_true.1 P.routes) x hx
   simp only [Cps.zBv,Bool.and_eq_true,decide_eq_true_eq] at this ⊢
   refine ⟨by simp,?_⟩
   simp only [List.all_append,this.2,List.all_cons,List.all_nil,zJ5 h1]
   rfl
 case «sleep» =>
  match n,hl with
  | [r,l,a,b],_ =>
   obtain ⟨_,h⟩:=zAE (by decide) h
   obtain ⟨h1,_⟩:=zAE (by decide) h
   refine ⟨⟨C.base,C.keys,C.days,C.lost⟩,⟨P.sends,P.rises,P.pat,zGD P.routes fun x hx _ => ?_⟩,A⟩
   have:=(List.all_eq_true.1 P.routes) x hx
   simp only [Cps.zBv,Bool.and_eq_true,decide_eq_true_eq] at this ⊢
   refine ⟨by simp only [zBs];exact this.1,zGD this.2 fun y hy _ => ?_⟩
   have hy:=(List.all_eq_true.1 this.2) y hy
   simp only [zCJ,Bool.and_eq_true,decide_eq_true_eq] at h1
   simp only [Cps.zDC,Bool.and_eq_true] at hy ⊢
   refine ⟨hy.1,?_⟩
   have h3:Cps.zCk (a,b) 30=true:=by simp only [Cps.zCk,Bool.and_eq_true,decide_eq_true_eq];exact h1
   simp only [List.all_append,hy.2,List.all_cons,List.all_nil,h3]
   rfl
 case «wait» =>
  match n,hl with
  | [k],_ =>
   obtain ⟨h1,_⟩:=zAE (by decide) h
   simp only [betB,Bool.and_eq_true,decide_eq_true_eq] at h1
   exact ⟨⟨C.base,C.keys,C.days,C.lost⟩,⟨P.sends,P.rises,by show Cps.inR k (0,30)=true;unfold Cps.inR;simp only [Bool.and_eq_true,decide_eq_true_eq];exact h1,P.routes⟩,A⟩
 case «came» =>
  match n,hl with
  | [a,b],_ => exact ⟨⟨C.base,C.keys,C.days,C.lost⟩,P,A⟩
 case «skipped» =>
  match n,hl with
  | [a,b],_ => exact ⟨⟨C.base,C.keys,C.days,C.lost⟩,P,A⟩
 case «strike» =>
  match n,hl with
  | [a],_ => exact ⟨⟨C.base,C.keys,C.days,C.lost⟩,P,A⟩
 case «rate» =>
  match n,hl with
  | [r,k],_ =>
   obtain ⟨h1,_⟩:=zAE (by decide) h
   rw [decide_eq_true_eq] at h1
   obtain ⟨a1,a2,_⟩:=zNV h1
   exact ⟨⟨C.base,C.keys,C.days,C.lost⟩,P,⟨rfl,a1,a2,A.ds⟩⟩
 case «paid» =>
  match n,hl with
  | [p,a,b,s],_ =>
   obtain ⟨h1,_⟩:=zAE (by decide) h
   rw [decide_eq_true_eq] at h1
   obtain ⟨_,_,a3⟩:=zNV h1
   refine ⟨⟨C.base,C.keys,C.days,C.lost⟩,P,⟨rfl,A.rate,A.keeps,?_⟩⟩
   have a4:S.ds.all (Pay.disB 7)=true:=A.ds
   show (S.ds ++ [_]).all (Pay.disB 7)=true
   rw [List.all_append,a4]
   exact a3
 case «passed» =>
  match n,hl with
  | [d,s],_ =>
   obtain ⟨h1,h⟩:=zAE (by decide) h
   obtain ⟨h2,_⟩:=zAE (by decide) h
   simp only [Bool.and_eq_true,betB,decide_eq_true_eq,Bool.not_eq_true'] at h1 h2
   refine ⟨⟨C.base,C.keys,C.days,C.lost⟩,P,⟨rfl,A.rate,A.keeps,?_⟩⟩
   have a4:S.ds.all (Pay.disB 7)=true:=A.ds
   show (putAt S.ds d _).all (Pay.disB 7)=true
   refine zGD a4 fun x hx hx2 => ?_
   have hd:zCh S d=x:=by unfold zCh;rw [hx2];rfl
   rw [hd] at h2
   have:=(List.all_eq_true.1 a4) x hx
   simp only [Pay.disB,Bool.and_eq_true] at this ⊢
   obtain ⟨⟨⟨⟨⟨t1,t2⟩,t3⟩,t4⟩,t5⟩,t6⟩:=this
   exact ⟨⟨⟨⟨⟨zMB t1 (by simp only [Pay.inR,Bool.and_eq_true,decide_eq_true_eq];omega) h2,t2⟩,t3⟩,t4⟩,t5⟩,by simp⟩
 case «words» =>
  match n,hl with
  | [d,a,b],_ =>
   obtain ⟨h1,h⟩:=zAE (by decide) h
   obtain ⟨h2,_⟩:=zAE (by decide) h
   simp only [Bool.and_eq_true,decide_eq_true_eq] at h2
   refine ⟨⟨C.base,C.keys,C.days,C.lost⟩,P,⟨rfl,A.rate,A.keeps,?_⟩⟩
   have a4:S.ds.all (Pay.disB 7)=true:=A.ds
   show (putAt S.ds d _).all (Pay.disB 7)=true
   refine zGD a4 fun x hx hx2 => ?_
   have hd:zCh S d=x:=by unfold zCh;rw [hx2];rfl
   rw [hd] at h2
   have:=(List.all_eq_true.1 a4) x hx
   simp only [Pay.disB,Bool.and_eq_true,decide_eq_true_eq] at this ⊢
   obtain ⟨⟨⟨⟨⟨t1,t2⟩,t3⟩,t4⟩,t5⟩,t6⟩:=this
   exact ⟨⟨⟨⟨⟨t1,t2⟩,by omega⟩,by omega⟩,by omega⟩,t6⟩
theorem zQL {S:BSt} {c:Cmd} {n:List Int} (h:errL S c n=0):errC S c n=0:=by
 unfold errL at h
 split at h
 ·assumption
 ·rename_i h0;exact absurd h h0
theorem zN7 {S:BSt} (V:Val S) (s:ByteArray):Val (zAy S s):=by
 unfold zAy
 cases zAa s with
 | none => exact V
 | some x =>
  show Val (if _ then _ else _)
  split
  ·rename_i h;exact zN6 V (zQL h)
  ·exact V
theorem zN5 {S:BSt} (V:Val S) (l:List ByteArray):Val (zBa S l):=by
 induction l generalizing S with
 | nil => exact V
 | cons s l ih => exact ih (zN7 V s)
end Go.Proofs.YticjeianiahppaaGreatDoor
