/- The session book: contracts of the program and of the laws' helpers, joined (Na, Tb, Tc, Td, Te). -/
import Derived.Test.YticjeianiahppaaGreatDoorBP
import Derived.Test.YticjeianiahppaaGreatDoorBS
import Derived.Test.YticjeianiahppaaGreatDoorBQ
import Derived.Test.YticjeianiahppaaGreatDoorBD
set_option linter.unusedVariables false
set_option linter.unusedSimpArgs false
set_option linter.unnecessarySimpa false
namespace Go.Proofs.YticjeianiahppaaGreatDoor
open Go.RowKit Go.Flow
theorem numF_eq (s:List UInt8):numF s=numD s:=num_digits s
theorem wordsOf_spl (s:ByteArray):(wordsOf s).map (·.data.toList)=spl s.data.toList:=by
 unfold wordsOf
 rw [Lib.splitB_data,← splitK_spl]
 show Lib.splitK [32] 0 (Lib.count s.data.toList [32]) _=_
 rw [Lib.count_one]
def parseL (s:List UInt8):Option (Cmd × List Int) :=
 match spl s with
 | [] => none
 | x :: r => match cmdOf x with
  | none => none
  | some c => if r.length=c.many then (r.mapM numD).map fun n => (c,n) else none
theorem parseF_eq (s:ByteArray):parseF s=parseL s.data.toList:=by
 unfold parseF parseL
 rw [← wordsOf_spl]
 cases wordsOf s with
 | nil => rfl
 | cons x r =>
  simp only [List.map_cons,List.length_map]
  cases cmdOf x.data.toList with
  | none => rfl
  | some c =>
   simp only []
   have h:(r.map (·.data.toList)).mapM numD=r.mapM fun y => numF y.data.toList:=by
    induction r with
    | nil => rfl
    | cons y t ih => simp only [List.map_cons,List.mapM_cons,ih,numF_eq]
   rw [h]
def lineL (c:Cmd) (n:List Int):List UInt8:=c.word ++ n.flatMap fun x => 32 :: Lib.itoa x
theorem word_no32 (c:Cmd):(32:UInt8) ∉ c.word:=by cases c <;> decide
theorem spl_line (a:List UInt8) (h:32 ∉ a) (n:List Int):spl (a ++ n.flatMap fun x => 32 :: Lib.itoa x)=a :: n.map Lib.itoa:=by
 induction n generalizing a with
 | nil => simpa using spl_none h
 | cons x t ih =>
  rw [List.flatMap_cons,List.cons_append,spl_cons h,ih _ (itoa_no32 x),List.map_cons]
theorem parse_line (c:Cmd) (n:List Int) (hn:n.length=c.many) (hb:∀ x ∈ n,-1000000000 < x∧x < 1000000000):parseL (lineL c n)=some (c,n):=by
 unfold parseL lineL
 rw [spl_line _ (word_no32 c)]
 simp only [cmd_word,List.length_map]
 rw [if_pos hn]
 have h:(n.map Lib.itoa).mapM numD=some n:=by
  clear hn
  induction n with
  | nil => rfl
  | cons x t ih =>
   rw [List.map_cons,List.mapM_cons,numD_itoa (hb x (by simp)).1 (hb x (by simp)).2,ih (fun y hy => hb y (by simp [hy]))];rfl
 rw [h];rfl
end Go.Proofs.YticjeianiahppaaGreatDoor
namespace Go.Proofs.YticjeianiahppaaGreatDoor
theorem lineS_refused {S:BSt} {s:ByteArray} (h:lineE S s≠0):lineS S s=S:=by
 unfold lineE at h
 unfold lineS
 cases hp:parseF s with
 | none => rfl
 | some x =>
  rw [hp] at h
  exact if_neg h
def keptL (S:BSt):List ByteArray→List ByteArray
 | [] => []
 | s :: l => if lineE S s=0 then s :: keptL (lineS S s) l else keptL (lineS S s) l
theorem playS_cons (S:BSt) (s:ByteArray) (l:List ByteArray):playS S (s :: l)=playS (lineS S s) l:=rfl
theorem playS_app (S:BSt) (l r:List ByteArray):playS S (l ++ r)=playS (playS S l) r:=by simp [playS]
theorem playE_app (S:BSt) (l r:List ByteArray):playE S (l ++ r)=playE S l ++ playE (playS S l) r:=by
 induction l generalizing S with
 | nil => rfl
 | cons s l ih => simp [playE,ih,playS_cons]
theorem kept_state (S:BSt) (l:List ByteArray):playS S (keptL S l)=playS S l:=by
 induction l generalizing S with
 | nil => rfl
 | cons s l ih =>
  unfold keptL
  split
  ·rw [playS_cons,playS_cons,ih]
  ·rename_i h
   rw [playS_cons,lineS_refused h,ih]
theorem kept_errors (S:BSt) (l:List ByteArray):playE S (keptL S l)=List.replicate (keptL S l).length 0:=by
 induction l generalizing S with
 | nil => rfl
 | cons s l ih =>
  unfold keptL
  split
  ·rename_i h
   rw [playE,h,ih,List.length_cons,List.replicate_succ]
  ·rename_i h
   rw [lineS_refused h,ih]
theorem kept_yes {S:BSt} {s:ByteArray} {l:List ByteArray} (h:lineE S s=0):keptL S (s :: l)=s :: keptL (lineS S s) l:=if_pos h
theorem kept_no {S:BSt} {s:ByteArray} {l:List ByteArray} (h:lineE S s≠0):keptL S (s :: l)=keptL S l:=by
 have:keptL S (s :: l)=keptL (lineS S s) l:=if_neg h
 rw [this,lineS_refused h]
theorem kept_kept (S:BSt) (l:List ByteArray):keptL S (keptL S l)=keptL S l:=by
 induction l generalizing S with
 | nil => rfl
 | cons s l ih =>
  by_cases h:lineE S s=0
  ·rw [kept_yes h,kept_yes h,ih]
  ·rw [kept_no h,ih]
theorem kept_len (S:BSt) (l:List ByteArray):(keptL S l).length≤l.length:=by
 induction l generalizing S with
 | nil => exact Nat.le_refl _
 | cons s l ih =>
  unfold keptL
  split
  ·exact Nat.succ_le_succ (ih _)
  ·exact Nat.le_succ_of_le (ih _)
theorem kept_mem (S:BSt) (l:List ByteArray):∀ s ∈ keptL S l,s ∈ l:=by
 induction l generalizing S with
 | nil => intro s h;exact h
 | cons x l ih =>
  intro s h
  unfold keptL at h
  split at h
  ·rcases List.mem_cons.1 h with rfl | h
   ·exact List.mem_cons_self
   ·exact List.mem_cons_of_mem _ (ih _ s h)
  ·exact List.mem_cons_of_mem _ (ih _ s h)
theorem kept_snoc (S:BSt) (l:List ByteArray) (s:ByteArray):keptL S (l ++ [s])=keptL S l ++ (if lineE (playS S l) s=0 then [s] else []):=by
 induction l generalizing S with
 | nil =>
  rw [List.nil_append]
  unfold keptL
  rfl
 | cons x l ih =>
  rw [List.cons_append]
  unfold keptL
  rw [ih,playS_cons]
  split <;> rfl
end Go.Proofs.YticjeianiahppaaGreatDoor
namespace Go.Proofs.YticjeianiahppaaGreatDoor
theorem fits_sub {l l' : List Cps.Ent} (h:∀ x ∈ l',x ∈ l) {e:Cps.Ent} {i:Nat} (hf:Cps.fitsB l e i=true):Cps.fitsB l' e i=true:=by
 unfold Cps.fitsB at *
 rw [Bool.not_eq_true',List.any_eq_false] at *
 exact fun x hx => hf x (h x hx)
theorem next_sub {p:Cps.Post} {l l' : List Cps.Ent} (h:∀ x ∈ l',x ∈ l):∀ (r i:Nat) (f:Int),(Cps.nextR p l r i f).isSome=true→(Cps.nextR p l' r i f).isSome=true
 | 0,_,_,_ => rfl
 | r + 1,i,f,hs => by
  rw [Cps.nextR_iff] at *
  obtain ⟨k,h1,h2,h3,h4⟩:=hs
  exact ⟨k,h1,h2,fits_sub h h3,next_sub h r _ _ h4⟩
theorem can_send {p q:Cps.Post} (hr:q.routes=p.routes) {i:Nat} (hs:q.sends.getD i 0=p.sends.getD i 0) (h:Nat):Cps.canB q i h=Cps.canB p i h:=by
 have e1:∀ k,Cps.hrF q i k=Cps.hrF p i k:=fun k => by unfold Cps.hrF;rw [hr,hs]
 have e2:∀ k,Cps.badK q i h k=Cps.badK p i h k:=fun k => by unfold Cps.badK Cps.lossyK;rw [hr,e1]
 have e3:∀ k,Cps.someN q i h k=Cps.someN p i h k:=fun k => by unfold Cps.someN;simp only [e1]
 unfold Cps.canB
 simp only [e2,e3,hr]
theorem recv_send {p q:Cps.Post} (hp:q.pat=p.pat) {i:Nat} (hs:q.sends.getD i 0=p.sends.getD i 0) (f h:Int):Cps.recvF q i f h=Cps.recvF p i f h:=by
 simp only [Cps.recvF,hp,hs]
theorem next_more {p q:Cps.Post} {l:List Cps.Ent} (hr:q.routes=p.routes) (hp:q.pat=p.pat) {x:Int} (hs:q.sends=p.sends ++ [x]) (h0:Cps.postErr q=0) (hl:∀ e ∈ l,e.num≠(p.sends.length:Int)) :
  ∀ (r i:Nat) (f:Int),i + r=p.sends.length→(Cps.nextR p l r i f).isSome=true→(Cps.nextR q l (r + 1) i f).isSome=true
 | 0,i,f,hi,_ => by
  obtain ⟨m,hm,_,hc,_⟩:=Cps.latest_spec h0 (show i < q.sends.length by rw [hs];simp;omega)
  rw [Cps.nextR_iff]
  refine ⟨m,by omega,hc,?_,rfl⟩
  unfold Cps.fitsB
  rw [Bool.not_eq_true',List.any_eq_false]
  intro e he
  have:=hl e he
  unfold Cps.wrongB
  simp only [Nat.add_zero] at hi
  rw [hi]
  simp [this]
 | r + 1,i,f,hi,h => by
  have hg:q.sends.getD i 0=p.sends.getD i 0:=by
   rw [hs,List.getD_eq_getElem?_getD,List.getD_eq_getElem?_getD,List.getElem?_append_left (by omega)]
  rw [Cps.nextR_iff] at *
  obtain ⟨k,h1,h2,h3,h4⟩:=h
  refine ⟨k,h1,by rw [can_send hr hg];exact h2,by rw [recv_send hp hg];exact h3,?_⟩
  rw [recv_send hp hg]
  exact next_more hr hp hs h0 hl r (i + 1) _ (by omega) h4
theorem expl_ok {p:Cps.Post} {l:List Cps.Ent}:Cps.explErr p l=0↔Cps.bookErr p l=0∧(Cps.searchF p l).isSome=true:=by
 unfold Cps.explErr Cps.explB
 by_cases h:Cps.bookErr p l=0
 ·rw [if_neg (by simpa using h)]
  cases (Cps.searchF p l).isSome <;> simp [h]
 ·rw [if_pos h];simp [h]
theorem book_ok {p:Cps.Post} {l:List Cps.Ent}:Cps.bookErr p l=0↔Cps.postErr p=0∧l.length≤8∧l.all (Cps.entOk p.sends.length)=true:=by
 refine ⟨Cps.bookErr_ok,fun ⟨h1,h2,h3⟩ => ?_⟩
 unfold Cps.bookErr
 rw [if_neg (by simpa using h1),if_neg (by omega),h3];rfl
theorem rises_snoc:∀ (l:List Int) (x:Int),Cps.risesB l=true→(l=[]∨l.getD (l.length - 1) 0 < x)→Cps.risesB (l ++ [x])=true
 | [],_,_,_ => rfl
 | [a],x,_,h => by
  rcases h with h | h
  ·cases h
  ·simp at h
   simp [Cps.risesB,h]
 | a :: b :: l,x,hr,h => by
  simp only [Cps.risesB,Bool.and_eq_true] at hr
  have:=rises_snoc (b :: l) x hr.2 (.inr (by
   rcases h with h | h
   ·cases h
   ·simpa using h))
  simp only [List.cons_append] at this ⊢
  simp only [Cps.risesB,Bool.and_eq_true]
  exact ⟨hr.1,this⟩
theorem post_send {p:Cps.Post} {x:Int} (h:Cps.postErr p=0) (hx:betB x 0 30=true) (hn:p.sends.length=0∨p.sends.getD (p.sends.length - 1) 0 < x) (h4:p.sends.length < 4):Cps.postErr { p with sends:=p.sends ++ [x] }=0:=by
 unfold Cps.postErr at *
 split at h
 ·cases h
 rename_i h1
 split at h
 ·cases h
 rename_i h2
 simp only [not_or] at h1 h2
 simp only [betB,Bool.and_eq_true,decide_eq_true_eq] at hx
 rw [if_neg,if_neg]
 ·simp only [not_or]
  refine ⟨by simp,h2.2.1,h2.2.2.1,?_,?_,h2.2.2.2.2.2⟩
  ·have:=h2.2.2.2.1
   rw [Bool.not_eq_false] at this ⊢
   rw [List.all_append,this]
   simp [Cps.inR,hx]
  ·have:=h2.2.2.2.2.1
   rw [Bool.not_eq_false] at this ⊢
   exact rises_snoc _ _ this (hn.imp (fun h => List.eq_nil_of_length_eq_zero h) id)
 ·simp only [not_or]
  exact ⟨by simp;omega,h1.2⟩
theorem expl_next {S:BSt} {c:Cmd} {n:List Int} (hS:explOk S=true) (h:errL S c n=0):explOk (nxtC S c n)=true:=by
 unfold errL at h
 split at h
 ·rename_i h0
  by_cases ha:c.asks=true
  ·rw [ha] at h
   cases hx:explOk (nxtC S c n)
   ·rw [hx] at h;cases h
   ·rfl
  ·have hl:=errC_len h0
   cases c
   all_goals first | exact absurd rfl ha | skip
   case send =>
    match n,hl with
    | [x],_ =>
     obtain ⟨a1,h0⟩:=chain_cons (by decide) h0
     obtain ⟨a2,h0⟩:=chain_cons (by decide) h0
     obtain ⟨a3,_⟩:=chain_cons (by decide) h0
     simp only [Bool.or_eq_true,decide_eq_true_eq] at a2 a3
     unfold explOk at hS ⊢
     rw [Bool.or_eq_true,decide_eq_true_eq,decide_eq_true_eq] at hS ⊢
     rcases hS with hj | he
     ·exact .inl hj
     ·refine .inr ?_
      rw [expl_ok,book_ok] at he ⊢
      obtain ⟨⟨e1,e2,e3⟩,e4⟩:=he
      have hq:=post_send e1 a1 a2 a3
      refine ⟨⟨hq,e2,?_⟩,?_⟩
      ·rw [List.all_eq_true] at e3 ⊢
       intro e he
       have:=e3 e he
       simp only [Cps.entOk,Cps.inR,nxtC,List.length_append,List.length_singleton,Bool.and_eq_true,decide_eq_true_eq] at this ⊢
       omega
      ·have hm:=next_more (p:=S.post) (q:={ S.post with sends:=S.post.sends ++ [x] }) rfl rfl rfl hq (l:=S.journal) (fun e he => by
        have:=(List.all_eq_true.1 e3) e he
        simp only [Cps.entOk,Cps.inR,Bool.and_eq_true,decide_eq_true_eq] at this
        omega) S.post.sends.length 0 0 (by omega) e4
       unfold Cps.searchF
       show (Cps.nextR { S.post with sends:=S.post.sends ++ [x] } S.journal (S.post.sends ++ [x]).length 0 0).isSome=true
       rw [List.length_append,List.length_singleton]
       exact hm
   case strike =>
    match n,hl with
    | [k],_ =>
     have hsub:∀ x ∈ cutAt S.journal k,x ∈ S.journal:=fun x hx => by
      unfold cutAt at hx
      rcases List.mem_append.1 hx with hx | hx
      ·exact List.mem_of_mem_take hx
      ·exact List.mem_of_mem_drop hx
     unfold explOk at hS ⊢
     rw [Bool.or_eq_true,decide_eq_true_eq,decide_eq_true_eq] at hS ⊢
     rcases hS with hj | he
     ·exact .inl (by show cutAt S.journal k=[];rw [hj];simp [cutAt])
     ·refine .inr ?_
      rw [expl_ok,book_ok] at he ⊢
      obtain ⟨⟨e1,e2,e3⟩,e4⟩:=he
      refine ⟨⟨e1,Nat.le_trans (cutAt_len _ _) e2,?_⟩,next_sub hsub _ _ _ e4⟩
      rw [List.all_eq_true] at e3 ⊢
      exact fun e he => e3 e (hsub e he)
   all_goals
    rcases n with _ | ⟨n0,_ | ⟨n1,_ | ⟨n2,_ | ⟨n3,_ | ⟨n4,n⟩⟩⟩⟩⟩
    all_goals exact hS
 ·rename_i h0
  exact absurd h h0
theorem expl_line {S:BSt} (hS:explOk S=true) (s:ByteArray):explOk (lineS S s)=true:=by
 by_cases h:lineE S s=0
 ·unfold lineE at h
  unfold lineS
  cases hp:parseF s with
  | none => exact hS
  | some x =>
   rw [hp] at h
   show explOk (if errL S x.1 x.2=0 then nxtC S x.1 x.2 else S)=true
   rw [if_pos h]
   exact expl_next hS h
 ·rw [lineS_refused h];exact hS
theorem expl_play {S:BSt} (hS:explOk S=true) (l:List ByteArray):explOk (playS S l)=true:=by
 induction l generalizing S with
 | nil => exact hS
 | cons s l ih => exact ih (expl_line hS s)
end Go.Proofs.YticjeianiahppaaGreatDoor
namespace Go.Proofs.YticjeianiahppaaGreatDoor
theorem lineE_of {S:BSt} {s:ByteArray} {c:Cmd} {n:List Int} (h:parseF s=some (c,n)):lineE S s=errL S c n:=lineE_some h
theorem lineS_of {S:BSt} {s:ByteArray} {c:Cmd} {n:List Int} (h:parseF s=some (c,n)):lineS S s=if errL S c n=0 then nxtC S c n else S:=by unfold lineS;rw [h]
theorem cut_last {α:Type} (l:List α) (x:α):cutAt (l ++ [x]) (l.length:Int)=l:=by
 unfold cutAt
 simp
theorem idx_len (n:Nat):idxB (n:Int) n=false:=by unfold idxB;simp;omega
theorem idx_lt (n:Nat):idxB (n:Int) (n + 1)=true:=by unfold idxB;simp
theorem undo_lost {S:BSt} {s t:ByteArray} {a b:Int} (h1:parseF s=some (.lost,[a,b])) (h2:parseF t=some (.found,[(S.lost.length:Int)])) :
  lineS (lineS S s) t=S∧(lineE S s=0↔lineE (lineS S s) t=0):=by
 rw [lineE_of h1,lineE_of h2,lineS_of h2,lineS_of h1]
 by_cases h:errL S .lost [a,b]=0
 ·rw [if_pos h]
  have e:errL (nxtC S .lost [a,b]) .found [(S.lost.length:Int)]=0:=by
   simp [errL,errC,nxtC,chain,idx_lt,Cmd.asks]
  rw [if_pos e]
  refine ⟨?_,by simp [h,e]⟩
  simp only [nxtC,cut_last]
 ·rw [if_neg h]
  have e:errL S .found [(S.lost.length:Int)]≠0:=by
   simp [errL,errC,chain,idx_len]
  rw [if_neg e]
  exact ⟨rfl,by simp [h,e]⟩
theorem undo_came {S:BSt} {s t:ByteArray} {c:Cmd} {a b:Int} (hc:c=.came∨c=.skipped) (h1:parseF s=some (c,[a,b])) (h2:parseF t=some (.strike,[(S.journal.length:Int)])) :
  lineS (lineS S s) t=S∧(lineE S s=0↔lineE (lineS S s) t=0):=by
 rw [lineE_of h1,lineE_of h2,lineS_of h2,lineS_of h1]
 by_cases h:errL S c [a,b]=0
 ·rw [if_pos h]
  have e:errL (nxtC S c [a,b]) .strike [(S.journal.length:Int)]=0:=by
   rcases hc with rfl | rfl <;> simp [errL,errC,nxtC,chain,idx_lt,Cmd.asks]
  rw [if_pos e]
  refine ⟨?_,by simp [h,e]⟩
  rcases hc with rfl | rfl <;> simp only [nxtC,cut_last]
 ·rw [if_neg h]
  have e:errL S .strike [(S.journal.length:Int)]≠0:=by
   simp [errL,errC,chain,idx_len]
  rw [if_neg e]
  exact ⟨rfl,by simp [h,e]⟩
inductive Part where
 | codes | post | journal | account
 deriving DecidableEq
def Cmd.part:Cmd→Part
 | .book | .key | .day | .lost | .found => .codes
 | .rate | .paid | .passed | .words => .account
 | .came | .skipped | .strike => .journal
 | _ => .post
structure SameCodes (S T:BSt):Prop where
 size:T.size=S.size
 words:T.words=S.words
 keys:T.keys=S.keys
 days:T.days=S.days
 lost:T.lost=S.lost
structure SameAcc (S T:BSt):Prop where
 rate:T.rate=S.rate
 keeps:T.keeps=S.keeps
 ds:T.ds=S.ds
theorem part_next (S:BSt) (c:Cmd) (n:List Int):(c.part≠.codes→SameCodes S (nxtC S c n))∧(c.part≠.post→(nxtC S c n).post=S.post)∧(c.part≠.account→SameAcc S (nxtC S c n)):=by
 cases c
 all_goals
  rcases n with _ | ⟨n0,_ | ⟨n1,_ | ⟨n2,_ | ⟨n3,_ | ⟨n4,n⟩⟩⟩⟩⟩
  all_goals exact ⟨fun h => by first | exact absurd rfl h | exact ⟨rfl,rfl,rfl,rfl,rfl⟩,fun h => by first | exact absurd rfl h | exact rfl,fun h => by first | exact absurd rfl h | exact ⟨rfl,rfl,rfl⟩⟩
theorem part_line (S:BSt) (s:ByteArray):(∀ c n,parseF s=some (c,n)→c.part≠.codes)→SameCodes S (lineS S s):=by
 intro h
 unfold lineS
 cases hp:parseF s with
 | none => exact ⟨rfl,rfl,rfl,rfl,rfl⟩
 | some x =>
  obtain ⟨c,n⟩:=x
  show SameCodes S (if _ then _ else _)
  split
  ·exact (part_next S c n).1 (h c n hp)
  ·exact ⟨rfl,rfl,rfl,rfl,rfl⟩
theorem part_line2 (S:BSt) (s:ByteArray):(∀ c n,parseF s=some (c,n)→c.part≠.post)→(lineS S s).post=S.post:=by
 intro h
 unfold lineS
 cases hp:parseF s with
 | none => rfl
 | some x =>
  obtain ⟨c,n⟩:=x
  show (if _ then _ else _:BSt).post=S.post
  split
  ·exact (part_next S c n).2.1 (h c n hp)
  ·rfl
theorem part_line3 (S:BSt) (s:ByteArray):(∀ c n,parseF s=some (c,n)→c.part≠.account)→SameAcc S (lineS S s):=by
 intro h
 unfold lineS
 cases hp:parseF s with
 | none => exact ⟨rfl,rfl,rfl⟩
 | some x =>
  obtain ⟨c,n⟩:=x
  show SameAcc S (if _ then _ else _)
  split
  ·exact (part_next S c n).2.2 (h c n hp)
  ·exact ⟨rfl,rfl,rfl⟩
end Go.Proofs.YticjeianiahppaaGreatDoor
namespace Go.Proofs.YticjeianiahppaaGreatDoor
def baseOk (s w:Int):Prop:=(13≤s∧s≤41)∧Cph.primeTo s.toNat s.toNat=true∧(1≤w∧w≤s)
structure ValC (S:BSt):Prop where
 base:(S.size=0∧S.keys=[])∨baseOk S.size S.words
 keys:S.keys.all (Cph.keyOk S.size)=true
 days:S.days.all (Cph.ownOk S.keys.length)=true
 lost:∀ x ∈ S.lost,(0≤x.1∧x.1≤(S.keys.length:Int) - 1)∧(0≤x.2∧x.2≤(S.days.length:Int) - 1)
structure ValP (p:Cps.Post):Prop where
 sends:p.sends.all (fun n => Cps.inR n (0,30))=true
 rises:Cps.risesB p.sends=true
 pat:Cps.inR p.pat (0,30)=true
 routes:p.routes.all Cps.routeOk=true
structure ValA (a:Pay.Acc):Prop where
 st:a.st=7
 rate:Pay.inR a.rate 0 20=true
 keeps:Pay.inR a.keeps 0 100=true
 ds:a.ds.all (Pay.disB 7)=true
structure Val (S:BSt):Prop where
 codes:ValC S
 post:ValP S.post
 acc:ValA S.acc
theorem Val.begun:Val BSt.begun :=
 ⟨⟨.inl ⟨rfl,rfl⟩,rfl,rfl,by simp [BSt.begun]⟩,⟨rfl,rfl,rfl,rfl⟩,⟨rfl,rfl,rfl,rfl⟩⟩
theorem Val.book {S:BSt} (V:Val S) (F:Few S) (h:S.days≠[]):Cph.bookErr S.size S.words S.keys S.days=0:=by
 have hk:S.keys≠[]:=fun e => by
  cases hd:S.days with
  | nil => exact h hd
  | cons x t =>
   have:=V.codes.days
   rw [hd,e] at this
   simp [Cph.ownOk] at this
   omega
 have hb:baseOk S.size S.words:=by
  rcases V.codes.base with ⟨_,e⟩ | e
  ·exact absurd e hk
  ·exact e
 have:=F.keys
 have:=F.days
 unfold Cph.bookErr
 rw [if_neg (by omega),if_pos ⟨hb.1,hb.2.1,hb.2.2,hk,h,V.codes.keys,V.codes.days⟩]
theorem Val.posted {S:BSt} (V:Val S) (F:Few S) (h1:S.post.sends≠[]) (h2:S.post.routes≠[]):Cps.postErr S.post=0:=by
 have f1:=F.sends
 have f2:=F.routes
 have f3:S.post.routes.all Cps.routeFew=true:=by
  rw [List.all_eq_true]
  intro r hr
  unfold Cps.routeFew
  rw [Bool.and_eq_true,decide_eq_true_eq,List.all_eq_true]
  exact ⟨F.legs r hr,fun l hl => by simpa using F.asl r hr l hl⟩
 unfold Cps.postErr
 rw [if_neg,if_neg]
 ·simp only [not_or,Bool.not_eq_false]
  exact ⟨h1,h2,V.post.pat,V.post.sends,V.post.rises,V.post.routes⟩
 ·simp only [not_or,Bool.not_eq_false]
  exact ⟨by omega,by omega,f3⟩
theorem Val.paid {S:BSt} (V:Val S) (F:Few S):Pay.accErr S.acc=0:=by
 have f1:S.acc.ds.all Pay.fewB=true:=by
  rw [List.all_eq_true]
  intro d hd
  simpa [Pay.fewB] using F.passed d hd
 have f2:S.acc.ds.length≤6:=F.ds
 have f3:=V.acc.st
 unfold Pay.accErr
 rw [if_neg,if_neg]
 ·simp only [not_or,Bool.not_eq_false]
  exact ⟨by omega,V.acc.rate,V.acc.keeps,by rw [f3];exact V.acc.ds⟩
 ·simp only [not_or,Bool.not_eq_false]
  exact ⟨by omega,by omega,f1⟩
theorem book_base {s w:Int} {ks:List (Int × Int × Int)} {ds:List Int} (h:Cph.bookErr s w ks ds=0):baseOk s w∧ks.all (Cph.keyOk s)=true:=by
 unfold Cph.bookErr at h
 split at h
 ·cases h
 ·split at h
  ·rename_i h1
   exact ⟨⟨h1.1,h1.2.1,h1.2.2.1⟩,h1.2.2.2.2.2.1⟩
  ·cases h
theorem all_more {n m:Nat} (h:n≤m) {l:List Int} (hl:l.all (Cph.ownOk n)=true):l.all (Cph.ownOk m)=true:=by
 rw [List.all_eq_true] at *
 intro x hx
 have:=hl x hx
 simp only [Cph.ownOk,Bool.and_eq_true,decide_eq_true_eq] at *
 omega
theorem all_put {α:Type} {P:α→Bool} {l:List α} {k:Int} {f:α→α} (h:l.all P=true) (hf:∀ x ∈ l,l[k.toNat]?=some x→P (f x)=true):(putAt l k f).all P=true:=by
 rw [List.all_eq_true] at *
 intro x hx
 rcases putAt_mem hx with hx | ⟨y,hy,rfl⟩
 ·exact h x hx
 ·exact hf y (List.mem_of_getElem? hy) hy
theorem span_leg {a b:Int} (h:spanB a b 6=true):Cps.legOk ⟨a,b,[]⟩=true:=by
 simp only [spanB,Bool.and_eq_true,decide_eq_true_eq] at h
 simp only [Cps.legOk,Cps.uptoB,List.all_nil,Bool.and_eq_true,decide_eq_true_eq,Bool.and_true]
 exact h
theorem once_snoc {st:Int} {l:List Int} {x:Int} (h:Pay.onceB st l=true) (hx:Pay.inR x 0 (st - 1)=true) (hn:l.contains x=false):Pay.onceB st (l ++ [x])=true:=by
 unfold Pay.onceB at *
 rw [List.all_eq_true] at *
 intro k hk
 rw [List.mem_range,List.length_append,List.length_singleton] at hk
 by_cases hl:k < l.length
 ·have:=h k (List.mem_range.2 hl)
  rw [List.getD_eq_getElem?_getD,List.getElem?_append_left hl,List.take_append_of_le_length (by omega),← List.getD_eq_getElem?_getD]
  exact this
 ·obtain rfl:k=l.length:=by omega
  rw [List.getD_eq_getElem?_getD,List.getElem?_append_right (Nat.le_refl _),Nat.sub_self,List.take_left]
  simp only [List.getElem?_cons_zero,Option.getD_some,Bool.and_eq_true]
  exact ⟨hx,by rw [hn];rfl⟩
theorem acc_one {a:Pay.Acc} (h:Pay.accErr a=0):Pay.inR a.rate 0 20=true∧Pay.inR a.keeps 0 100=true∧a.ds.all (Pay.disB a.st)=true:=by
 unfold Pay.accErr at h
 split at h
 ·cases h
 ·split at h
  ·cases h
  ·rename_i h1
   simp only [not_or,Bool.not_eq_false] at h1
   exact ⟨h1.2.1,h1.2.2.1,h1.2.2.2⟩
theorem val_next {S:BSt} {c:Cmd} {n:List Int} (V:Val S) (h:errC S c n=0):Val (nxtC S c n):=by
 have hl:=errC_len h
 obtain ⟨C,P,A⟩:=V
 cases c
 case «book» =>
  match n,hl with
  | [s,w],_ =>
   obtain ⟨h1,_⟩:=chain_cons (by decide) h
   rw [decide_eq_true_eq] at h1
   exact ⟨⟨.inr (book_base h1).1,rfl,rfl,by simp [nxtC]⟩,P,A⟩
 case «key» =>
  match n,hl with
  | [m,a,t],_ =>
   obtain ⟨_,h⟩:=chain_cons (by decide) h
   obtain ⟨h1,_⟩:=chain_cons (by decide) h
   rw [decide_eq_true_eq] at h1
   obtain ⟨hb,hk⟩:=book_base h1
   simp only [List.all_cons,List.all_nil,Bool.and_true] at hk
   refine ⟨⟨.inr hb,?_,all_more (by simp [nxtC]) C.days,fun x hx => ?_⟩,P,A⟩
   ·simp only [nxtC,List.all_append,C.keys,List.all_cons,hk,List.all_nil];rfl
   ·have:=C.lost x hx
    simp only [nxtC,List.length_append,List.length_singleton]
    omega
 case «day» =>
  match n,hl with
  | [k],_ =>
   obtain ⟨h1,_⟩:=chain_cons (by decide) h
   simp only [idxB,Bool.and_eq_true,decide_eq_true_eq] at h1
   refine ⟨⟨C.base,C.keys,?_,fun x hx => ?_⟩,P,A⟩
   ·simp only [nxtC,List.all_append,C.days,List.all_cons,List.all_nil,Cph.ownOk,Bool.and_true,Bool.true_and,Bool.and_eq_true,decide_eq_true_eq]
    exact h1
   ·have:=C.lost x hx
    simp only [nxtC,List.length_append,List.length_singleton]
    omega
 case «lost» =>
  match n,hl with
  | [k,d],_ =>
   obtain ⟨h1,_⟩:=chain_cons (by decide) h
   simp only [idxB,Bool.and_eq_true,decide_eq_true_eq] at h1
   refine ⟨⟨C.base,C.keys,C.days,fun x hx => ?_⟩,P,A⟩
   rcases List.mem_append.1 hx with hx | hx
   ·exact C.lost x hx
   ·simp at hx;subst hx;exact h1
 case «found» =>
  match n,hl with
  | [k],_ =>
   refine ⟨⟨C.base,C.keys,C.days,fun x hx => ?_⟩,P,A⟩
   unfold nxtC cutAt at hx
   rcases List.mem_append.1 hx with hx | hx
   ·exact C.lost x (List.mem_of_mem_take hx)
   ·exact C.lost x (List.mem_of_mem_drop hx)
 case «send» =>
  match n,hl with
  | [x],_ =>
   obtain ⟨h1,h⟩:=chain_cons (by decide) h
   obtain ⟨h2,_⟩:=chain_cons (by decide) h
   simp only [betB,Bool.and_eq_true,Bool.or_eq_true,decide_eq_true_eq] at h1 h2
   refine ⟨⟨C.base,C.keys,C.days,C.lost⟩,⟨?_,rises_snoc _ _ P.rises (h2.imp (fun h => List.eq_nil_of_length_eq_zero h) id),P.pat,P.routes⟩,A⟩
   have h3:Cps.inR x (0,30)=true:=by simp only [Cps.inR,Bool.and_eq_true,decide_eq_true_eq];exact h1
   simp only [nxtC,List.all_append,P.sends,List.all_cons,List.all_nil,h3]
   rfl
 case «route» =>
  match n,hl with
  | [y,a,b],_ =>
   obtain ⟨h1,_⟩:=chain_cons (by decide) h
   refine ⟨⟨C.base,C.keys,C.days,C.lost⟩,⟨P.sends,P.rises,P.pat,?_⟩,A⟩
   simp only [nxtC,List.all_append,P.routes,List.all_cons,List.all_nil,Cps.routeOk,span_leg h1]
   rfl
 case «leg» =>
  match n,hl with
  | [r,a,b],_ =>
   obtain ⟨_,h⟩:=chain_cons (by decide) h
   obtain ⟨h1,_⟩:=chain_cons (by decide) h
   refine ⟨⟨C.base,C.keys,C.days,C.lost⟩,⟨P.sends,P.rises,P.pat,all_put P.routes fun x hx _ => ?_⟩,A⟩
   have:=(List.all_eq_true.1 P.routes) x hx
   simp only [Cps.routeOk,Bool.and_eq_true,decide_eq_true_eq] at this ⊢
   refine ⟨by simp,?_⟩
   simp only [List.all_append,this.2,List.all_cons,List.all_nil,span_leg h1]
   rfl
 case «sleep» =>
  match n,hl with
  | [r,l,a,b],_ =>
   obtain ⟨_,h⟩:=chain_cons (by decide) h
   obtain ⟨h1,_⟩:=chain_cons (by decide) h
   refine ⟨⟨C.base,C.keys,C.days,C.lost⟩,⟨P.sends,P.rises,P.pat,all_put P.routes fun x hx _ => ?_⟩,A⟩
   have:=(List.all_eq_true.1 P.routes) x hx
   simp only [Cps.routeOk,Bool.and_eq_true,decide_eq_true_eq] at this ⊢
   refine ⟨by simp only [putAt_len];exact this.1,all_put this.2 fun y hy _ => ?_⟩
   have hy:=(List.all_eq_true.1 this.2) y hy
   simp only [spanB,Bool.and_eq_true,decide_eq_true_eq] at h1
   simp only [Cps.legOk,Bool.and_eq_true] at hy ⊢
   refine ⟨hy.1,?_⟩
   have h3:Cps.uptoB (a,b) 30=true:=by simp only [Cps.uptoB,Bool.and_eq_true,decide_eq_true_eq];exact h1
   simp only [List.all_append,hy.2,List.all_cons,List.all_nil,h3]
   rfl
 case «wait» =>
  match n,hl with
  | [k],_ =>
   obtain ⟨h1,_⟩:=chain_cons (by decide) h
   simp only [betB,Bool.and_eq_true,decide_eq_true_eq] at h1
   exact ⟨⟨C.base,C.keys,C.days,C.lost⟩,⟨P.sends,P.rises,by show Cps.inR k (0,30)=true;unfold Cps.inR;simp only [Bool.and_eq_true,decide_eq_true_eq];exact h1,P.routes⟩,A⟩
 case «came» =>
  match n,hl with
  | [a,b],_ => exact ⟨⟨C.base,C.keys,C.days,C.lost⟩,P,A⟩
 case «skipped» =>
  match n,hl with
  | [a,b],_ => exact ⟨⟨C.base,C.keys,C.days,C.lost⟩,P,A⟩
 case «strike» =>
  match n,hl with
  | [a],_ => exact ⟨⟨C.base,C.keys,C.days,C.lost⟩,P,A⟩
 case «rate» =>
  match n,hl with
  | [r,k],_ =>
   obtain ⟨h1,_⟩:=chain_cons (by decide) h
   rw [decide_eq_true_eq] at h1
   obtain ⟨a1,a2,_⟩:=acc_one h1
   exact ⟨⟨C.base,C.keys,C.days,C.lost⟩,P,⟨rfl,a1,a2,A.ds⟩⟩
 case «paid» =>
  match n,hl with
  | [p,a,b,s],_ =>
   obtain ⟨h1,_⟩:=chain_cons (by decide) h
   rw [decide_eq_true_eq] at h1
   obtain ⟨_,_,a3⟩:=acc_one h1
   refine ⟨⟨C.base,C.keys,C.days,C.lost⟩,P,⟨rfl,A.rate,A.keeps,?_⟩⟩
   have a4:S.ds.all (Pay.disB 7)=true:=A.ds
   show (S.ds ++ [_]).all (Pay.disB 7)=true
   rw [List.all_append,a4]
   exact a3
 case «passed» =>
  match n,hl with
  | [d,s],_ =>
   obtain ⟨h1,h⟩:=chain_cons (by decide) h
   obtain ⟨h2,_⟩:=chain_cons (by decide) h
   simp only [Bool.and_eq_true,betB,decide_eq_true_eq,Bool.not_eq_true'] at h1 h2
   refine ⟨⟨C.base,C.keys,C.days,C.lost⟩,P,⟨rfl,A.rate,A.keeps,?_⟩⟩
   have a4:S.ds.all (Pay.disB 7)=true:=A.ds
   show (putAt S.ds d _).all (Pay.disB 7)=true
   refine all_put a4 fun x hx hx2 => ?_
   have hd:disOf S d=x:=by unfold disOf;rw [hx2];rfl
   rw [hd] at h2
   have:=(List.all_eq_true.1 a4) x hx
   simp only [Pay.disB,Bool.and_eq_true] at this ⊢
   obtain ⟨⟨⟨⟨⟨t1,t2⟩,t3⟩,t4⟩,t5⟩,t6⟩:=this
   exact ⟨⟨⟨⟨⟨once_snoc t1 (by simp only [Pay.inR,Bool.and_eq_true,decide_eq_true_eq];omega) h2,t2⟩,t3⟩,t4⟩,t5⟩,by simp⟩
 case «words» =>
  match n,hl with
  | [d,a,b],_ =>
   obtain ⟨h1,h⟩:=chain_cons (by decide) h
   obtain ⟨h2,_⟩:=chain_cons (by decide) h
   simp only [Bool.and_eq_true,decide_eq_true_eq] at h2
   refine ⟨⟨C.base,C.keys,C.days,C.lost⟩,P,⟨rfl,A.rate,A.keeps,?_⟩⟩
   have a4:S.ds.all (Pay.disB 7)=true:=A.ds
   show (putAt S.ds d _).all (Pay.disB 7)=true
   refine all_put a4 fun x hx hx2 => ?_
   have hd:disOf S d=x:=by unfold disOf;rw [hx2];rfl
   rw [hd] at h2
   have:=(List.all_eq_true.1 a4) x hx
   simp only [Pay.disB,Bool.and_eq_true,decide_eq_true_eq] at this ⊢
   obtain ⟨⟨⟨⟨⟨t1,t2⟩,t3⟩,t4⟩,t5⟩,t6⟩:=this
   exact ⟨⟨⟨⟨⟨t1,t2⟩,by omega⟩,by omega⟩,by omega⟩,t6⟩
theorem err_ok {S:BSt} {c:Cmd} {n:List Int} (h:errL S c n=0):errC S c n=0:=by
 unfold errL at h
 split at h
 ·assumption
 ·rename_i h0;exact absurd h h0
theorem val_line {S:BSt} (V:Val S) (s:ByteArray):Val (lineS S s):=by
 unfold lineS
 cases parseF s with
 | none => exact V
 | some x =>
  show Val (if _ then _ else _)
  split
  ·rename_i h;exact val_next V (err_ok h)
  ·exact V
theorem val_play {S:BSt} (V:Val S) (l:List ByteArray):Val (playS S l):=by
 induction l generalizing S with
 | nil => exact V
 | cons s l ih => exact ih (val_line V s)
end Go.Proofs.YticjeianiahppaaGreatDoor
