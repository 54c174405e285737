/- The session book: contracts of the program and of the laws' helpers, joined (No, Np). -/
import Derived.Test.YticjeianiahppaaGreatDoorDE
import Derived.Test.YticjeianiahppaaGreatDoorBT
set_option linter.unusedVariables false
set_option linter.unusedSimpArgs false
set_option linter.unnecessarySimpa false
namespace Go.Proofs.YticjeianiahppaaGreatDoor
open Go.RowKit Go.Flow
def thinS (s:ByteArray):Bool:=decide (s.size≤90)
def thinB (l:List ByteArray):Bool:=(l.take 56).all thinS && decide (l.length≤55)
def rightB (l:List ByteArray):Bool:=l.all shortB && decide (l.length≤50)
def readyB (l:List ByteArray) (m:Nat):Bool:=thinB l && rightB l && decide (l.length≤m)
theorem take_all {α:Type} {P:α→Bool} {l:List α} {k:Nat} (h:k < l.length):(l.take (k + 1)).all P=((l.take k).all P && P l[k]):=by
 rw [List.take_succ_eq_append_getElem h,List.all_append];simp
theorem all_false {α:Type} {P:α→Bool} {l:List α} {k n:Nat} (h:k < l.length) (hn:k < n) (hP:P l[k]=false):(l.take n).all P=false:=by
 rw [List.all_eq_false]
 exact ⟨l[k],List.mem_take_iff_getElem.2 ⟨k,by omega,rfl⟩,by rw [hP];simp⟩
set_option maxRecDepth 100000 in
theorem Thin_any (a:Option Addr) (c:Nat) (l:List ByteArray) (w:World) (hl:StrsAt w a l) (hn:l.length≤9223372036854775807) :
  Calls Tryz.prog 36 #[.slice a l.length c] w fun e w' => e=.returned (.bool (thinB l))∧Below w.heap.size w w':=by
 obtain ⟨R,hR⟩:∃ R,thinB l=R:=⟨_,rfl⟩
 have HR:=Lib.hid hR
 rw [hR]
 clear hR
 go_enter Tryz.func36,Tryz.ntmps36
 go_wp2
 go_loopw [3] (fun i X => ∃ k:Nat,k≤l.length∧k≤56∧i=.int .i64 k∧(l.take k).all thinS=true∧X=w) (fun i _ => 56 - (intOf i).toNat)
 case atStart => exact ⟨0,Nat.zero_le _,Nat.zero_le _,rfl,rfl,rfl⟩
 case round =>
  obtain ⟨k,hk,hk56,rfl,ha,rfl⟩:=hrel
  have Ha:=Lib.hid ha
  clear ha
  by_cases hlt:k < l.length
  ·have hkI:(k:Int) < (l.length:Int):=by omega
   have hk0:(0:Int)≤(k:Int):=by omega
   have iw:IntKind.i64.wrap ((k:Int) + 1)=(k:Int) + 1:=IntWalk.i64_in _ (by omega)
   by_cases h56:k < 56
   ·have hkJ:(k:Int) < 56:=by omega
    obtain ⟨b,off,rfl,hb,hc⟩:=hl k hlt
    have hta:=take_all (P:=thinS) hlt
    have hfa:=all_false (P:=thinS) (n:=56) hlt h56
    have hts:thinS l[k]=decide (l[k].size≤90):=rfl
    generalize l[k]=s at hc hta hfa hts
    have Ht:=Lib.hid hta
    have Hf:=Lib.hid hfa
    have Hs:=Lib.hid hts
    clear hta hfa hts
    by_cases h90:s.size≤90
    ·have h90I:¬ (90 < (s.size:Int)):=by omega
     have h90J:(s.size:Int)≤90:=by omega
     go_wp2
     go_round
     case rel => exact ⟨k + 1,by omega,by omega,by go_num,by rw [Ht.out,Ha.out,Hs.out];simpa using h90,trivial⟩
     case measure => simp [intOf];omega
    ·have h90I:90 < (s.size:Int):=by omega
     have e:R=false:=by
      rw [← HR.out];unfold thinB
      rw [Hf.out (by rw [Hs.out];simpa using h90)];rfl
     subst e
     go_wp2
     go_ret
     exact ⟨rfl,Below.refl _ _⟩
   ·have hkJ:¬ ((k:Int) < 56):=by omega
    have h55:¬ ((l.length:Int)≤55):=by omega
    have e:R=false:=by
     rw [← HR.out];unfold thinB
     rw [decide_eq_false (show ¬ l.length≤55 by omega),Bool.and_false]
    subst e
    go_wp2
    go_ret
    exact ⟨by simp,Below.refl _ _⟩
  ·obtain rfl:k=l.length:=by omega
   rw [List.take_length] at Ha
   have e:R=decide ((l.length:Int)≤55):=by
    rw [← HR.out];unfold thinB
    rw [List.take_of_length_le (by omega),Ha.out,Bool.true_and]
    by_cases h:l.length≤55
    ·rw [decide_eq_true h,decide_eq_true (by omega)]
    ·rw [decide_eq_false h,decide_eq_false (by omega)]
   have He:=Lib.hid e
   clear e
   go_wp2
   go_ret
   exact ⟨by rw [He.out];rfl,Below.refl _ _⟩
set_option maxRecDepth 100000 in
theorem Right_any (a:Option Addr) (c:Nat) (l:List ByteArray) (w:World) (hl:StrsAt w a l) (hn:l.length≤9223372036854775807) :
  Calls Tryz.prog 98 #[.slice a l.length c] w fun e w' => e=.returned (.bool (rightB l))∧Below w.heap.size w w':=by
 obtain ⟨R,hR⟩:∃ R,rightB l=R:=⟨_,rfl⟩
 have HR:=Lib.hid hR
 rw [hR]
 clear hR
 go_enter Tryz.func98,Tryz.ntmps98
 go_wp2
 go_loopw [3] (fun i X => ∃ k:Nat,k≤l.length∧i=.int .i64 k∧(l.take k).all shortB=true∧X=w) (fun i _ => l.length - (intOf i).toNat)
 case atStart => exact ⟨0,Nat.zero_le _,rfl,rfl,rfl⟩
 case round =>
  obtain ⟨k,hk,rfl,ha,rfl⟩:=hrel
  have Ha:=Lib.hid ha
  clear ha
  by_cases hlt:k < l.length
  ·have hkI:(k:Int) < (l.length:Int):=by omega
   have hk0:(0:Int)≤(k:Int):=by omega
   have iw:IntKind.i64.wrap ((k:Int) + 1)=(k:Int) + 1:=IntWalk.i64_in _ (by omega)
   obtain ⟨b,off,rfl,hb,hc⟩:=hl k hlt
   have hta:=take_all (P:=shortB) hlt
   have hfa:=all_false (P:=shortB) (n:=l.length) hlt hlt
   rw [List.take_length] at hfa
   have hts:shortB l[k]=decide (l[k].size≤80):=rfl
   generalize l[k]=s at hc hta hfa hts
   have Ht:=Lib.hid hta
   have Hf:=Lib.hid hfa
   have Hs:=Lib.hid hts
   clear hta hfa hts
   by_cases h90:s.size≤80
   ·have h90I:¬ (80 < (s.size:Int)):=by omega
    have h90J:(s.size:Int)≤80:=by omega
    go_wp2
    go_round
    case rel => exact ⟨k + 1,by omega,by go_num,by rw [Ht.out,Ha.out,Hs.out];simpa using h90,trivial⟩
    case measure => simp [intOf];omega
   ·have h90I:80 < (s.size:Int):=by omega
    have e:R=false:=by
     rw [← HR.out];unfold rightB
     rw [Hf.out (by rw [Hs.out];simpa using h90)];rfl
    subst e
    go_wp2
    go_ret
    exact ⟨rfl,Below.refl _ _⟩
  ·obtain rfl:k=l.length:=by omega
   rw [List.take_length] at Ha
   have e:R=decide ((l.length:Int)≤50):=by
    rw [← HR.out];unfold rightB
    rw [Ha.out,Bool.true_and]
    by_cases h:l.length≤50
    ·rw [decide_eq_true h,decide_eq_true (by omega)]
    ·rw [decide_eq_false h,decide_eq_false (by omega)]
   have He:=Lib.hid e
   clear e
   go_wp2
   go_ret
   exact ⟨by rw [He.out];rfl,Below.refl _ _⟩
set_option maxRecDepth 100000 in
theorem ready_any (a:Option Addr) (c m:Nat) (l:List ByteArray) (w:World) (hl:StrsAt w a l) (hn:l.length≤9223372036854775807) :
  Calls Tryz.prog 55 #[.slice a l.length c,.int .i64 (m:Int)] w fun e w' => e=.returned (.bool (readyB l m))∧Below w.heap.size w w':=by
 obtain ⟨t,ht⟩:∃ t,thinB l=t:=⟨_,rfl⟩
 obtain ⟨r,hr⟩:∃ r,rightB l=r:=⟨_,rfl⟩
 have T:=Thin_any a c l w hl (by omega)
 have R:=fun w' (h:Below w.heap.size w w') => Right_any a c l w' (hl.below h) hn
 rw [ht] at T
 simp only [hr] at R
 have E:readyB l m=(t && r && decide (l.length≤m)):=by unfold readyB;rw [ht,hr]
 rw [E]
 clear E ht hr
 cases t
 ·go_enter Tryz.func55,Tryz.ntmps55
  go_wp2_with fail
  go_at_call 36
  refine T.mono ?_
  rintro e w1 ⟨rfl,b1⟩
  go_wp2
  go_ret
  exact ⟨rfl,b1⟩
 ·cases r
  all_goals
   go_enter Tryz.func55,Tryz.ntmps55
   go_wp2_with fail
   go_at_call 36
   refine T.mono ?_
   rintro e w1 ⟨rfl,b1⟩
   go_wp2_with fail
   go_at_call 98
   refine (R w1 b1).mono ?_
   rintro e w2 ⟨rfl,b2⟩
   go_wp2
   go_ret
   exact ⟨by simp,b1.trans (b2.mono b1.size)⟩
theorem ready_ok {l:List ByteArray} {m:Nat} (h:readyB l m=true):faultL l=0∧l.length≤m∧l.length≤50:=by
 unfold readyB rightB at h
 simp only [Bool.and_eq_true,decide_eq_true_eq] at h
 refine ⟨?_,h.2,h.1.2.2⟩
 unfold faultL
 rw [decide_eq_true h.1.2.2,h.1.2.1];rfl
end Go.Proofs.YticjeianiahppaaGreatDoor
namespace Go.Proofs.YticjeianiahppaaGreatDoor
open Go.RowKit Go.Flow
theorem playE_get:∀ (l:List ByteArray) (S:BSt) (k:Nat) (h:k < l.length),(playE S l).getD k 0=lineE (playS S (l.take k)) l[k]
 | [],_,k,h => absurd h (Nat.not_lt_zero k)
 | s :: l,S,0,_ => rfl
 | s :: l,S,k + 1,h => by
  have:=playE_get l (lineS S s) k (by simpa using h)
  simp only [playE,List.getD_cons_succ,this,List.take_succ_cons,playS_cons,List.getElem_cons_succ]
def PlayedPost (B:Nat) (l:List ByteArray) (e:Ending) (w' : World):Prop :=
 ∃ A a c,e=.returned (.tuple #[.agg (stCells (afterL l) A),.slice a (keptL BSt.begun l).length c,.bool true])∧Lists w' (afterL l) A∧OwnL 9 1 B w' a c (keptL BSt.begun l).length ((keptL BSt.begun l).map Value.string)
set_option maxRecDepth 100000 in
set_option maxHeartbeats 4000000 in
theorem played_any (a:Option Addr) (c:Nat) (l:List ByteArray) (w:World) (hl:StrsAt w a l) (hn:a=none→c=0) (h0:faultL l=0) (hv:Vars w) :
  Calls Tryz.prog 56 #[.slice a l.length c] w fun e w' => PlayedPost w.heap.size l e w'∧Below w.heap.size w w':=by
 obtain ⟨h50,hs⟩:=fault_ok h0
 have H0:=Lib.hid h0
 clear h0
 go_enter Tryz.func56,Tryz.ntmps56
 go_upto_region 1 with fail
 obtain ⟨W1,hW⟩:∃ x:World,x=w.alloc (.cells zeroCells 57):=⟨_,rfl⟩
 have t1:Below w.heap.size w W1:=by rw [hW];exact Joins.below_alloc1 _ _
 have D1:Cells W1 w.heap.size zeroCells 57:=by rw [hW];exact Cells.new _ _ _
 rw [← hW]
 clear hW
 go_wp2_with fail
 go_at_call 38
 refine (list_any a c l _ (hl.below t1) hn (by omega)).mono ?_
 rintro e W2 ⟨⟨a1,c1,rfl,o1⟩,b2⟩
 have t2:=t1.trans (b2.mono t1.size)
 have D2:=D1.below b2
 go_wp2_with fail
 go_at_call 28
 refine (Play_any w.heap.size a1 c1 l W2 o1.strs (by omega) (hv.below t2) D2.lt).mono ?_
 rintro e W3 ⟨⟨_,A,ae,ce,rfl,hL,he⟩ | ⟨h3,_⟩,b3⟩
 rotate_left
 ·rw [H0.out] at h3;cases h3
 have t3:=t2.trans (b3.mono t2.size)
 have D3:=D2.below b3
 clear o1 b2 b3 D1 D2 t1 t2
 go_upto_region 2 with fail
 obtain ⟨V,hV⟩:∃ x:World,x=W3.alloc (.cells (stCells (afterL l) A) 57):=⟨_,rfl⟩
 have bv:Below W3.heap.size W3 V:=by rw [hV];exact Joins.below_alloc1 _ _
 have C5:Cells V W3.heap.size (stCells (afterL l) A) 57:=by rw [hV];exact Cells.new _ _ _
 change Code.wp _ _ _ _ (W3.alloc (.cells (stCells (afterL l) A) 57))
 rw [← hV]
 clear hV
 have tv:=t3.trans (bv.mono t3.size)
 replace D3:=D3.below bv
 replace he:=he.below bv
 replace hL:Lists (hidL [w.heap.size] V) (afterL l) A:=hL.shows (shows_hidL bv.size fun k hk hn => ⟨hn,bv.block k hk⟩)
 have h5w:w.heap.size < V.heap.size:=D3.lt
 clear bv t3
 go_wp2_with fail
 go_loopw [8,9] (fun o i X => ∃ (k:Nat) (a' : Option Addr) (c' : Nat),k≤l.length∧i=.int .i64 k∧o=.slice a' (keptL BSt.begun (l.take k)).length c'∧OwnL 9 1 V.heap.size X a' c' (keptL BSt.begun (l.take k)).length ((keptL BSt.begun (l.take k)).map Value.string)∧Below V.heap.size V X) (fun _ i _ => l.length - (intOf i).toNat)
 case atStart => exact ⟨0,none,0,Nat.zero_le _,rfl,rfl,OwnL.nil _ _ _ _,Below.refl _ _⟩
 case round =>
  obtain ⟨k,a',c',hk,rfl,rfl,own,bX⟩:=hrel
  by_cases hlt:k < l.length
  ·have hkI:(k:Int) < (l.length:Int):=by omega
   have hk0:(0:Int)≤(k:Int):=by omega
   have iw:IntKind.i64.wrap ((k:Int) + 1)=(k:Int) + 1:=IntWalk.i64_in _ (by omega)
   obtain ⟨d,off,hda,hld,hc⟩:=(he.below bX) k (by rw [playE_len];exact hlt)
   subst hda
   rw [playE_get l BSt.begun k hlt] at hc
   obtain ⟨b,of2,hba,hbl,hc2⟩:=(hl.below (tv.trans (bX.mono tv.size))) k hlt
   subst hba
   have hks:=kept_snoc BSt.begun (l.take k) l[k]
   rw [← List.take_succ_eq_append_getElem hlt] at hks
   have hkl:=kept_len BSt.begun (l.take k)
   have hkl2:(keptL BSt.begun (l.take k)).length≤50:=by rw [List.length_take] at hkl;omega
   obtain ⟨E,hE⟩:∃ E,lineE (playS BSt.begun (l.take k)) l[k]=E:=⟨_,rfl⟩
   rw [hE] at hc hks
   clear hE hkl
   generalize l[k]=s at hc2 hks
   obtain ⟨K,hK⟩:∃ K,keptL BSt.begun (l.take k)=K:=⟨_,rfl⟩
   rw [hK] at own hks hkl2 ⊢
   have Hks:=Lib.hid hks
   clear hks hK
   by_cases hz:E=0
   ·subst hz
    go_wp2_with (at_builtin;refine wpList_app_lit_at elStr rfl _ _ rfl V.heap.size a' K.length c' _ rfl own 1 1 rfl rfl (fun u hu => ?c1) ?c2 ?c3 ?c4 ?_)
    case c1 => simp at hu;subst hu;rfl
    case c2 => unfold maxLen;omega
    case c3 => omega
    case c4 => exact bX.size
    intro a2 c2 w2 own2 b2 _
    go_wp2_with fail
    go_round
    case rel =>
     refine ⟨k + 1,a2,c2,by omega,by go_num,?_,?_,bX.trans b2⟩
     ·rw [Hks.out];simp
     ·rw [Hks.out];simpa using own2
    case measure => simp [intOf];omega
   ·have hzb:(E == 0)=false:=by simpa using hz
    go_wp2_with fail
    go_round
    case rel =>
     refine ⟨k + 1,a',c',by omega,by go_num,?_,?_,bX⟩
     ·rw [Hks.out,if_neg hz,List.append_nil]
     ·rw [Hks.out,if_neg hz,List.append_nil];exact own
    case measure => simp [intOf];omega
  ·obtain rfl:k=l.length:=by omega
   rw [List.take_length] at own
   simp only [List.take_length]
   have CX:=C5.below bX
   have DX:=D3.below bX
   have hLX:Lists (hidL [w.heap.size] wr) (afterL l) A:=hL.shows (shows_hidL bX.size fun j hj hn => ⟨hn,bX.block j hj⟩)
   have tX:=tv.trans (bX.mono tv.size)
   have l5:=CX.lt
   have q0:=CX.cell 0
   have q1:=CX.cell 1
   have q2:=CX.cell 2
   have q3:=CX.cell 3
   have q4:=CX.cell 4
   have q5:=CX.cell 5
   have q6:=CX.cell 6
   have q7:=CX.cell 7
   have q8:=CX.cell 8
   have q9:=CX.cell 9
   have q10:=CX.cell 10
   have q11:=CX.cell 11
   have q12:=CX.cell 12
   have r0:=DX.cell 0
   have t0:=DX.frozen 0
   have r1:=DX.cell 1
   have t1:=DX.frozen 1
   have r2:=DX.cell 2
   have t2:=DX.frozen 2
   have r3:=DX.cell 3
   have t3:=DX.frozen 3
   have r4:=DX.cell 4
   have t4:=DX.frozen 4
   have r5:=DX.cell 5
   have t5:=DX.frozen 5
   have r6:=DX.cell 6
   have t6:=DX.frozen 6
   have r7:=DX.cell 7
   have t7:=DX.frozen 7
   have r8:=DX.cell 8
   have t8:=DX.frozen 8
   have r9:=DX.cell 9
   have t9:=DX.frozen 9
   have r10:=DX.cell 10
   have t10:=DX.frozen 10
   have r11:=DX.cell 11
   have t11:=DX.frozen 11
   have r12:=DX.cell 12
   have t12:=DX.frozen 12
   simp at q0 r0 q1 r1 q2 r2 q3 r3 q4 r4 q5 r5 q6 r6 q7 r7 q8 r8 q9 r9 q10 r10 q11 r11 q12 r12
   have lD:=DX.lt
   go_wp2_with fail
   refine bodyPost_ret (results_cell3 rfl rfl (load_state (cells_put13 DX) rfl) rfl rfl) rfl ⟨⟨A,a',c',rfl,?_,?_⟩,?_⟩
   ·exact hLX.shows (Shows.keepG (putKeep lD _ _ _ _ _ _ _ _ _ _ _ _ _))
   ·exact (own.keepG h5w (putKeep lD _ _ _ _ _ _ _ _ _ _ _ _ _)).base_le (by omega)
   ·exact tX.trans ((putKeep lD _ _ _ _ _ _ _ _ _ _ _ _ _).under (Nat.le_refl _))
end Go.Proofs.YticjeianiahppaaGreatDoor
