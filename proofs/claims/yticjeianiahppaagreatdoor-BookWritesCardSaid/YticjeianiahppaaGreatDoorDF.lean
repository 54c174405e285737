/- The session book: contracts of the program and of the laws' helpers, joined (No, Np). -/
import Derived.Test.YticjeianiahppaaGreatDoorDE
import Derived.Test.YticjeianiahppaaGreatDoorBT
set_option linter.unusedVariables false
set_option linter.unusedSimpArgs false
set_option linter.unnecessarySimpa false
set_option maxRecDepth 100000
set_option maxHeartbeats 40000000
namespace Go.Proofs.YticjeianiahppaaGreatDoor
open Go.RowKit Go.Flow
def zL0 (s:ByteArray):Bool:=decide (s.size≤90)
def zIa (l:List ByteArray):Bool:=(l.take 56).all zL0 && decide (l.length≤55)
def zFa (l:List ByteArray):Bool:=l.all zDH && decide (l.length≤50)
def zHm (l:List ByteArray) (m:Nat):Bool:=zIa l && zFa l && decide (l.length≤m)
theorem zJZ {α:Type} {P:α→Bool} {l:List α} {k:Nat} (h:k < l.length):(l.take (k + 1)).all P=((l.take k).all P && P l[k]):=by
 rw [List.take_succ_eq_append_getElem h,List.all_append];simp
theorem zI0 {α:Type} {P:α→Bool} {l:List α} {k n:Nat} (h:k < l.length) (hn:k < n) (hP:P l[k]=false):(l.take n).all P=false:=by
 rw [List.all_eq_false]
 exact ⟨l[k],List.mem_take_iff_getElem.2 ⟨k,by omega,rfl⟩,by rw [hP];simp⟩
theorem zOe (a:Option Addr) (c:Nat) (l:List ByteArray) (w:World) (hl:zAs w a l) (hn:l.length≤9223372036854775807) :
  Calls Tryz.prog 36 #[.slice a l.length c] w fun e w' => e=.returned (.bool (zIa l))∧Below w.heap.size w w':=by
 obtain ⟨R,hR⟩:∃ R,zIa l=R:=⟨_,rfl⟩
 have HR:=Lib.hid hR
 rw [hR]
 clear hR
 go_enter Tryz.func36,Tryz.ntmps36
 go_wp2
 go_loopw [3] (fun i X => ∃ k:Nat,k≤l.length∧k≤56∧i=.int .i64 k∧(l.take k).all zL0=true∧X=w) (fun i _ => 56 - (intOf i).toNat)
 case atStart => exact ⟨0,Nat.zero_le _,Nat.zero_le _,rfl,rfl,rfl⟩
 case round =>
  obtain ⟨k,hk,hk56,rfl,ha,rfl⟩:=hrel
  have Ha:=Lib.hid ha
  clear ha
  by_cases hlt:k < l.length
  ·have hkI:(k:Int) < (l.length:Int):=by omega
   have hk0:(0:Int)≤(k:Int):=by omega
   have iw:IntKind.i64.wrap ((k:Int) + 1)=(k:Int) + 1:=IntWalk.i64_in _ (by omega)
   by_cases h56:k < 56
   ·have hkJ:(k:Int) < 56:=by omega
    obtain ⟨b,off,rfl,hb,hc⟩:=hl k hlt
    have hta:=zJZ (P:=zL0) hlt
    have hfa:=zI0 (P:=zL0) (n:=56) hlt h56
    have hts:zL0 l[k]=decide (l[k].size≤90):=rfl
    generalize l[k]=s at hc hta hfa hts
    have Ht:=Lib.hid hta
    have Hf:=Lib.hid hfa
    have Hs:=Lib.hid hts
    clear hta hfa hts
    by_cases h90:s.size≤90
    ·have h90I:¬ (90 < (s.size:Int)):=by omega
     have h90J:(s.size:Int)≤90:=by omega
     go_wp2
     go_round
     case rel => exact ⟨k + 1,by omega,by omega,by go_num,by rw [Ht.out,Ha.out,Hs.out];simpa using h90,trivial⟩
     case measure => simp [intOf];omega
    ·have h90I:90 < (s.size:Int):=by omega
     have e:R=false:=by
      rw [← HR.out];unfold zIa
      rw [Hf.out (by rw [Hs.out];simpa using h90)];rfl
     subst e
     go_wp2
     go_ret
     exact ⟨rfl,Below.refl _ _⟩
   ·have hkJ:¬ ((k:Int) < 56):=by omega
    have h55:¬ ((l.length:Int)≤55):=by omega
    have e:R=false:=by
     rw [← HR.out];unfold zIa
     rw [decide_eq_false (show ¬ l.length≤55 by omega),Bool.and_false]
    subst e
    go_wp2
    go_ret
    exact ⟨by simp,Below.refl _ _⟩
  ·obtain rfl:k=l.length:=by omega
   rw [List.take_length] at Ha
   have e:R=decide ((l.length:Int)≤55):=by
    rw [← HR.out];unfold zIa
    rw [List.take_of_length_le (by omega),Ha.out,Bool.true_and]
    by_cases h:l.length≤55
    ·rw [decide_eq_true h,decide_eq_true (by omega)]
    ·rw [decide_eq_false h,decide_eq_false (by omega)]
   have He:=Lib.hid e
   clear e
   go_wp2
   go_ret
   exact ⟨by rw [He.out];rfl,Below.refl _ _⟩
theorem zN0 (a:Option Addr) (c:Nat) (l:List ByteArray) (w:World) (hl:zAs w a l) (hn:l.length≤9223372036854775807) :
  Calls Tryz.prog 98 #[.slice a l.length c] w fun e w' => e=.returned (.bool (zFa l))∧Below w.heap.size w w':=by
 obtain ⟨R,hR⟩:∃ R,zFa l=R:=⟨_,rfl⟩
 have HR:=Lib.hid hR
 rw [hR]
 clear hR
 go_enter Tryz.func98,Tryz.ntmps98
 go_wp2
 go_loopw [3] (fun i X => ∃ k:Nat,k≤l.length∧i=.int .i64 k∧(l.take k).all zDH=true∧X=w) (fun i _ => l.length - (intOf i).toNat)
 case atStart => exact ⟨0,Nat.zero_le _,rfl,rfl,rfl⟩
 case round =>
  obtain ⟨k,hk,rfl,ha,rfl⟩:=hrel
  have Ha:=Lib.hid ha
  clear ha
  by_cases hlt:k < l.length
  ·have hkI:(k:Int) < (l.length:Int):=by omega
   have hk0:(0:Int)≤(k:Int):=by omega
   have iw:IntKind.i64.wrap ((k:Int) + 1)=(k:Int) + 1:=IntWalk.i64_in _ (by omega)
   obtain ⟨b,off,rfl,hb,hc⟩:=hl k hlt
   have hta:=zJZ (P:=zDH) hlt
   have hfa:=zI0 (P:=zDH) (n:=l.length) hlt hlt
   rw [List.take_length] at hfa
   have hts:zDH l[k]=decide (l[k].size≤80):=rfl
   generalize l[k]=s at hc hta hfa hts
   have Ht:=Lib.hid hta
   have Hf:=Lib.hid hfa
   have Hs:=Lib.hid hts
   clear hta hfa hts
   by_cases h90:s.size≤80
   ·have h90I:¬ (80 < (s.size:Int)):=by omega
    have h90J:(s.size:Int)≤80:=by omega
    go_wp2
    go_round
    case rel => exact ⟨k + 1,by omega,by go_num,by rw [Ht.out,Ha.out,Hs.out];simpa using h90,trivial⟩
    case measure => simp [intOf];omega
   ·have h90I:80 < (s.size:Int):=by omega
    have e:R=false:=by
     rw [← HR.out];unfold zFa
     rw [Hf.out (by rw [Hs.out];simpa using h90)];rfl
    subst e
    go_wp2
    go_ret
    exact ⟨rfl,Below.refl _ _⟩
  ·obtain rfl:k=l.length:=by omega
   rw [List.take_length] at Ha
   have e:R=decide ((l.length:Int)≤50):=by
    rw [← HR.out];unfold zFa
    rw [Ha.out,Bool.true_and]
    by_cases h:l.length≤50
    ·rw [decide_eq_true h,decide_eq_true (by omega)]
    ·rw [decide_eq_false h,decide_eq_false (by omega)]
   have He:=Lib.hid e
   clear e
   go_wp2
   go_ret
   exact ⟨by rw [He.out];rfl,Below.refl _ _⟩
theorem zQB (a:Option Addr) (c m:Nat) (l:List ByteArray) (w:World) (hl:zAs w a l) (hn:l.length≤9223372036854775807) :
  Calls Tryz.prog 55 #[.slice a l.length c,.int .i64 (m:Int)] w fun e w' => e=.returned (.bool (zHm l m))∧Below w.heap.size w w':=by
 obtain ⟨t,ht⟩:∃ t,zIa l=t:=⟨_,rfl⟩
 obtain ⟨r,hr⟩:∃ r,zFa l=r:=⟨_,rfl⟩
 have T:=zOe a c l w hl (by omega)
 have R:=fun w' (h:Below w.heap.size w w') => zN0 a c l w' (hl.below h) hn
 rw [ht] at T
 simp only [hr] at R
 have E:zHm l m=(t && r && decide (l.length≤m)):=by unfold zHm;rw [ht,hr]
 rw [E]
 clear E ht hr
 cases t
 ·go_enter Tryz.func55,Tryz.ntmps55
  go_wp2_with fail
  go_at_call 36
  refine T.mono ?_
  rintro e w1 ⟨rfl,b1⟩
  go_wp2
  go_ret
  exact ⟨rfl,b1⟩
 ·cases r
  all_goals
   go_enter Tryz.func55,Tryz.ntmps55
   go_wp2_with fail
   go_at_call 36
   refine T.mono ?_
   rintro e w1 ⟨rfl,b1⟩
   go_wp2_with fail
   go_at_call 98
   refine (R w1 b1).mono ?_
   rintro e w2 ⟨rfl,b2⟩
   go_wp2
   go_ret
   exact ⟨by simp,b1.trans (b2.mono b1.size)⟩
theorem zQ0 {l:List ByteArray} {m:Nat} (h:zHm l m=true):zBF l=0∧l.length≤m∧l.length≤50:=by
 unfold zHm zFa at h
 simp only [Bool.and_eq_true,decide_eq_true_eq] at h
 refine ⟨?_,h.2,h.1.2.2⟩
 unfold zBF
 rw [decide_eq_true h.1.2.2,h.1.2.1];rfl
theorem zHp:∀ (l:List ByteArray) (S:BSt) (k:Nat) (h:k < l.length),(zCO S l).getD k 0=zBb (zBa S (l.take k)) l[k]
 | [],_,k,h => absurd h (Nat.not_lt_zero k)
 | s :: l,S,0,_ => rfl
 | s :: l,S,k + 1,h => by
  have:=zHp l (zAy S s) k (by simpa using h)
  simp only [zCO,List.getD_cons_succ,this,zzA,zBh,List.getElem_cons_succ]
def zLR (B:Nat) (l:List ByteArray) (e:Ending) (w' : World):Prop :=
 ∃ A a c,e=.returned (.tuple #[.agg (zAW (zAV l) A),.slice a (zB0 BSt.begun l).length c,.bool true])∧Lists w' (zAV l) A∧OwnL 9 1 B w' a c (zB0 BSt.begun l).length ((zB0 BSt.begun l).map Value.string)
theorem zPq (a:Option Addr) (c:Nat) (l:List ByteArray) (w:World) (hl:zAs w a l) (hn:a=none→c=0) (h0:zBF l=0) (hv:Vars w) :
  Calls Tryz.prog 56 #[.slice a l.length c] w fun e w' => zLR w.heap.size l e w'∧Below w.heap.size w w':=by
 obtain ⟨h50,hs⟩:=zFM h0
 have H0:=Lib.hid h0
 clear h0
 go_enter Tryz.func56,Tryz.ntmps56
 go_upto_region 1 with fail
 obtain ⟨W1,hW⟩:∃ x:World,x=w.alloc (.cells zeroCells 57):=⟨_,rfl⟩
 have t1:Below w.heap.size w W1:=by rw [hW];exact Joins.below_alloc1 _ _
 have D1:Cells W1 w.heap.size zeroCells 57:=by rw [hW];exact Cells.new _ _ _
 rw [← hW]
 clear hW
 go_wp2_with fail
 go_at_call 38
 refine (zFH a c l _ (hl.below t1) hn (by omega)).mono ?_
 rintro e W2 ⟨⟨a1,c1,rfl,o1⟩,b2⟩
 have t2:=t1.trans (b2.mono t1.size)
 have D2:=D1.below b2
 go_wp2_with fail
 go_at_call 28
 refine (zKC w.heap.size a1 c1 l W2 o1.strs (by omega) (hv.below t2) D2.lt).mono ?_
 rintro e W3 ⟨⟨_,A,ae,ce,rfl,hL,he⟩ | ⟨h3,_⟩,b3⟩
 rotate_left
 ·rw [H0.out] at h3;cases h3
 have t3:=t2.trans (b3.mono t2.size)
 have D3:=D2.below b3
 clear o1 b2 b3 D1 D2 t1 t2
 go_upto_region 2 with fail
 obtain ⟨V,hV⟩:∃ x:World,x=W3.alloc (.cells (zAW (zAV l) A) 57):=⟨_,rfl⟩
 have bv:Below W3.heap.size W3 V:=by rw [hV];exact Joins.below_alloc1 _ _
 have C5:Cells V W3.heap.size (zAW (zAV l) A) 57:=by rw [hV];exact Cells.new _ _ _
 change Code.wp _ _ _ _ (W3.alloc (.cells (zAW (zAV l) A) 57))
 rw [← hV]
 clear hV
 have tv:=t3.trans (bv.mono t3.size)
 replace D3:=D3.below bv
 replace he:=he.below bv
 replace hL:Lists (hidL [w.heap.size] V) (zAV l) A:=hL.shows (zAn bv.size fun k hk hn => ⟨hn,bv.block k hk⟩)
 have h5w:w.heap.size < V.heap.size:=D3.lt
 clear bv t3
 go_wp2_with fail
 go_loopw [8,9] (fun o i X => ∃ (k:Nat) (a' : Option Addr) (c' : Nat),k≤l.length∧i=.int .i64 k∧o=.slice a' (zB0 BSt.begun (l.take k)).length c'∧OwnL 9 1 V.heap.size X a' c' (zB0 BSt.begun (l.take k)).length ((zB0 BSt.begun (l.take k)).map Value.string)∧Below V.heap.size V X) (fun _ i _ => l.length - (intOf i).toNat)
 case atStart => exact ⟨0,none,0,Nat.zero_le _,rfl,rfl,OwnL.nil _ _ _ _,Below.refl _ _⟩
 case round =>
  obtain ⟨k,a',c',hk,rfl,rfl,own,bX⟩:=hrel
  by_cases hlt:k < l.length
  ·have hkI:(k:Int) < (l.length:Int):=by omega
   have hk0:(0:Int)≤(k:Int):=by omega
   have iw:IntKind.i64.wrap ((k:Int) + 1)=(k:Int) + 1:=IntWalk.i64_in _ (by omega)
   obtain ⟨d,off,hda,hld,hc⟩:=(he.below bX) k (by rw [zLq];exact hlt)
   subst hda
   rw [zHp l BSt.begun k hlt] at hc
   obtain ⟨b,of2,hba,hbl,hc2⟩:=(hl.below (tv.trans (bX.mono tv.size))) k hlt
   subst hba
   have hks:=zM4 BSt.begun (l.take k) l[k]
   rw [← List.take_succ_eq_append_getElem hlt] at hks
   have hkl:=zOG BSt.begun (l.take k)
   have hkl2:(zB0 BSt.begun (l.take k)).length≤50:=by rw [List.length_take] at hkl;omega
   obtain ⟨E,hE⟩:∃ E,zBb (zBa BSt.begun (l.take k)) l[k]=E:=⟨_,rfl⟩
   rw [hE] at hc hks
   clear hE hkl
   generalize l[k]=s at hc2 hks
   obtain ⟨K,hK⟩:∃ K,zB0 BSt.begun (l.take k)=K:=⟨_,rfl⟩
   rw [hK] at own hks hkl2 ⊢
   have Hks:=Lib.hid hks
   clear hks hK
   by_cases hz:E=0
   ·subst hz
    go_wp2_with (at_builtin;refine zCd zIN rfl _ _ rfl V.heap.size a' K.length c' _ rfl own 1 1 rfl rfl (fun u hu => ?c1) ?c2 ?c3 ?c4 ?_)
    case c1 => simp at hu;subst hu;rfl
    case c2 => unfold maxLen;omega
    case c3 => omega
    case c4 => exact bX.size
    intro a2 c2 w2 own2 b2 _
    go_wp2_with fail
    go_round
    case rel =>
     refine ⟨k + 1,a2,c2,by omega,by go_num,?_,?_,bX.trans b2⟩
     ·rw [Hks.out];simp
     ·rw [Hks.out];simpa using own2
    case measure => simp [intOf];omega
   ·have hzb:(E == 0)=false:=by simpa using hz
    go_wp2_with fail
    go_round
    case rel =>
     refine ⟨k + 1,a',c',by omega,by go_num,?_,?_,bX⟩
     ·rw [Hks.out,if_neg hz,List.append_nil]
     ·rw [Hks.out,if_neg hz,List.append_nil];exact own
    case measure => simp [intOf];omega
  ·obtain rfl:k=l.length:=by omega
   rw [List.take_length] at own
   simp only [List.take_length]
   have CX:=C5.below bX
   have DX:=D3.below bX
   have hLX:Lists (hidL [w.heap.size] wr) (zAV l) A:=hL.shows (zAn bX.size fun j hj hn => ⟨hn,bX.block j hj⟩)
   have tX:=tv.trans (bX.mono tv.size)
   have l5:=CX.lt
   have q0:=CX.cell 0
   have q1:=CX.cell 1
   have q2:=CX.cell 2
   have q3:=CX.cell 3
   have q4:=CX.cell 4
   have q5:=CX.cell 5
   have q6:=CX.cell 6
   have q7:=CX.cell 7
   have q8:=CX.cell 8
   have q9:=CX.cell 9
   have q10:=CX.cell 10
   have q11:=CX.cell 11
   have q12:=CX.cell 12
   have r0:=DX.cell 0
   have t0:=DX.frozen 0
   have r1:=DX.cell 1
   have t1:=DX.frozen 1
   have r2:=DX.cell 2
   have t2:=DX.frozen 2
   have r3:=DX.cell 3
   have t3:=DX.frozen 3
   have r4:=DX.cell 4
   have t4:=DX.frozen 4
   have r5:=DX.cell 5
   have t5:=DX.frozen 5
   have r6:=DX.cell 6
   have t6:=DX.frozen 6
   have r7:=DX.cell 7
   have t7:=DX.frozen 7
   have r8:=DX.cell 8
   have t8:=DX.frozen 8
   have r9:=DX.cell 9
   have t9:=DX.frozen 9
   have r10:=DX.cell 10
   have t10:=DX.frozen 10
   have r11:=DX.cell 11
   have t11:=DX.frozen 11
   have r12:=DX.cell 12
   have t12:=DX.frozen 12
   simp at q0 r0 q1 r1 q2 r2 q3 r3 q4 r4 q5 r5 q6 r6 q7 r7 q8 r8 q9 r9 q10 r10 q11 r11 q12 r12
   have lD:=DX.lt
   go_wp2_with fail
   refine bodyPost_ret (zCm rfl rfl (zCG (zB3 DX) rfl) rfl rfl) rfl ⟨⟨A,a',c',rfl,?_,?_⟩,?_⟩
   ·exact hLX.shows (Shows.keepG (zC8 lD _ _ _ _ _ _ _ _ _ _ _ _ _))
   ·exact (own.keepG h5w (zC8 lD _ _ _ _ _ _ _ _ _ _ _ _ _)).base_le (by omega)
   ·exact tX.trans ((zC8 lD _ _ _ _ _ _ _ _ _ _ _ _ _).under (Nat.le_refl _))
end Go.Proofs.YticjeianiahppaaGreatDoor
