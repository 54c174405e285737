/- The session book: contracts of the program and of the laws' helpers, joined (Nk). -/
import Derived.Test.YticjeianiahppaaGreatDoorDA
import Derived.Test.YticjeianiahppaaGreatDoorDB
set_option linter.unusedVariables false
set_option linter.unusedSimpArgs false
set_option linter.unnecessarySimpa false
set_option maxRecDepth 100000
set_option maxHeartbeats 40000000
namespace Go.Proofs.YticjeianiahppaaGreatDoor
open Go.RowKit Go.Flow Go.Shelf
theorem zOI:(Tryz.prog.info? 9).map (fun i => (i.zero,i.size,i.bytes))=some (some (.string ⟨#[]⟩),1,16):=by kernel_rfl
theorem zIN:Elem Tryz.prog 32 9 (.string ⟨#[]⟩) 1 16:=⟨Tryz.underlying32,info_parts zOI,rfl,by decide⟩
theorem zHB (n:Int) (h:Small n) (w:World) (hv:Vars w):Calls Tryz.prog 109 #[.int .i64 n] w fun e w' => e=.returned (.string (numW n))∧Below w.heap.size w w' :=
 zJn n (by unfold Small at h;omega) (by unfold Small at h;omega) w hv
theorem zNF (a b:ByteArray) (h:a.size + b.size≤1000000) (W:World):(Op.stringOp .add a b).run Tryz.prog W=.ok (.string (a ++ b)) W:=run_string_add_sum W a b (by omega)
theorem zNf (a b:ByteArray):(a ++ b).size=a.size + b.size:=ByteArray.size_append
theorem zHe (lo hi:Int) (h1:Small lo) (h2:Small hi) (w:World) (hv:Vars w):Calls Tryz.prog 110 #[.int .i64 lo,.int .i64 hi] w fun e w' => e=.returned (.string (zCI (lo,hi)))∧Below w.heap.size w w':=by
 have s1:=zEF h1
 have s2:=zEF h2
 have c1:=zNF (numW lo) ⟨#[46,46]⟩ (by show _ + 2≤_;omega)
 have c2:=zNF (numW lo ++ ⟨#[46,46]⟩) (numW hi) (by rw [zNf];show _ + 2 + _≤_;omega)
 go_enter Tryz.func110,Tryz.ntmps110
 go_wp2_with fail
 go_at_call 109
 refine (zHB lo h1 w hv).mono ?_
 rintro e w1 ⟨rfl,hb1⟩
 go_wp2_with fail
 go_at_call 109
 refine (zHB hi h2 w1 (hv.below hb1)).mono ?_
 rintro e w2 ⟨rfl,hb2⟩
 go_wp2_with fail
 go_ret
 exact ⟨rfl,hb1.trans (hb2.mono hb1.size)⟩
def zBE (i:Nat):ByteArray:=headW.getD i ⟨#[]⟩
def zAr (l:List ByteArray):Fin 4→List ByteArray
 | 0 => zBE 0 :: (zAq l).map dayW
 | 1 => zBE 1 :: (zC0 l).map zCI
 | 2 => zBE 2 :: (zDv l).map numW
 | 3 => zBE 3 :: (zEE l).map zCI
def zGz (ws:List ByteArray):List UInt8:=zDS ws ++ [10]
def zGp (l:List ByteArray):List UInt8:=zGz (zAr l 0) ++ zGz (zAr l 1) ++ zGz (zAr l 2) ++ zGz (zAr l 3)
def L0 (b:Nat):Fin 4→Option Addr × Nat × List ByteArray:=fun i => (some ⟨b + 1 + i.val,0,none⟩,1,[zBE i.val])
theorem zFK {X Y:World} {a a0 a' : Option Addr} {xs:List Int} (h:IntsAt X a xs) (hap:xs≠[]→Apart a0 a) (hz:X.heap.size≤Y.heap.size) (hk:∀ d,d < X.heap.size→(∀ y,a0=some y→y.block≠d)→Y.heap[d]?=X.heap[d]?∧∀ y,a'=some y→y.block≠d):IntsAt Y a xs∧(xs≠[]→Apart a' a):=by
 refine ⟨fun k hk2 => ?_,fun hne y z hy hza => ?_⟩
 ·obtain ⟨d,off,ha,hlt,hc⟩:=h k hk2
  have hne:xs≠[]:=fun e => by rw [e] at hk2;exact absurd hk2 (Nat.not_lt_zero _)
  have:=hk d hlt fun y hy e => hap hne y ⟨d,off,none⟩ hy ha e
  exact ⟨d,off,ha,Nat.lt_of_lt_of_le hlt hz,by rw [World.cell?_of_block this.1];exact hc⟩
 ·obtain ⟨d,off,ha,hlt,hc⟩:=h 0 (List.length_pos_iff.2 hne)
  have:=hk d hlt fun y hy e => hap hne y ⟨d,off,none⟩ hy ha e
  rw [ha] at hza
  cases hza
  exact this.2 y hy
theorem zJb {X Y:World} {a a0 a' : Option Addr} {xs:List (Int × Int)} (h:zAX X a xs) (hap:xs≠[]→Apart a0 a) (hz:X.heap.size≤Y.heap.size) (hk:∀ d,d < X.heap.size→(∀ y,a0=some y→y.block≠d)→Y.heap[d]?=X.heap[d]?∧∀ y,a'=some y→y.block≠d):zAX Y a xs∧(xs≠[]→Apart a' a):=by
 refine ⟨fun k hk2 => ?_,fun hne y z hy hza => ?_⟩
 ·obtain ⟨d,off,ha,hlt,hc,hc2⟩:=h k hk2
  have hne:xs≠[]:=fun e => by rw [e] at hk2;exact absurd hk2 (Nat.not_lt_zero _)
  have:=hk d hlt fun y hy e => hap hne y ⟨d,off,none⟩ hy ha e
  exact ⟨d,off,ha,Nat.lt_of_lt_of_le hlt hz,by rw [World.cell?_of_block this.1];exact hc,by rw [World.cell?_of_block this.1];exact hc2⟩
 ·obtain ⟨d,off,ha,hlt,hc,_⟩:=h 0 (List.length_pos_iff.2 hne)
  have:=hk d hlt fun y hy e => hap hne y ⟨d,off,none⟩ hy ha e
  rw [ha] at hza
  cases hza
  exact this.2 y hy
theorem zLg {b:Nat} {X:World} {L:Fin 4→Option Addr × Nat × List ByteArray} (h:Rep b X L) {i:Fin 4} (hL:L i=L0 b i):(L i).1=some ⟨b + 1 + i.val,0,none⟩∧OwnL 9 1 (b + 1) X (some ⟨b + 1 + i.val,0,none⟩) 1 1 [.string (zBE i.val)]:=by
 have:=h.own i
 rw [hL] at this ⊢
 exact ⟨rfl,this⟩
theorem zEa {b:Nat} {X:World} {L:Fin 4→Option Addr × Nat × List ByteArray} (h:Rep b X L) {i:Fin 4} (hL:L i=L0 b i) {a:Option Addr} {xs:List Int} (hx:IntsAt X a xs):xs≠[]→Apart (L i).1 a:=fun hne => by
 obtain ⟨e,o⟩:=zLg h hL
 obtain ⟨d,off,ha,hlt,hc⟩:=hx 0 (List.length_pos_iff.2 hne)
 rw [e];exact zHs o ha hc
theorem zG0 {b:Nat} {X:World} {L:Fin 4→Option Addr × Nat × List ByteArray} (h:Rep b X L) {i:Fin 4} (hL:L i=L0 b i) {a:Option Addr} {xs:List (Int × Int)} (hx:zAX X a xs):xs≠[]→Apart (L i).1 a:=fun hne => by
 obtain ⟨e,o⟩:=zLg h hL
 obtain ⟨d,off,ha,hlt,hc,_⟩:=hx 0 (List.length_pos_iff.2 hne)
 rw [e];exact zHs (j:=0 * 2) o ha hc
theorem zGy (w:World) (s:ByteArray) (k base:Nat) (h:w.heap.size=k) (hb:base≤k):OwnL 9 1 base (w.alloc (.cells #[.string s] 9)) (some ⟨k,0,none⟩) 1 1 [.string s]:=by
 subst h
 exact OwnL.lit #[.string s] hb (by decide) rfl
theorem zJM {b:Nat} {X:World} (h:Cells X b #[.pointer none,.slice none 0 0] 207):Lib.IsBuilderF 207 5 b b (Lib.byteCells []) X :=
 .inl ⟨Nat.le_refl _,.slice none 0 0,h,World.ownsRowF_nil X b 5 1,by simp [Value.ownBlock]⟩
theorem zJ8 {b:Nat} {X:World} {L:Fin 4→Option Addr × Nat × List ByteArray} (h:Rep b X L) {i:Fin 4} {s:ByteArray} {r:List ByteArray} (hw:(L i).2.2=s :: r):∃ g,(L i).1=some ⟨g,0,none⟩:=by
 rcases (h.own i).form with ⟨_,_,h3,_⟩ | ⟨g,h1,_⟩
 ·rw [hw] at h3;simp at h3
 ·exact ⟨g,h1⟩
theorem zD6 (l:List ByteArray) (i:Fin 4):(zDS (zAr l i)).length≤1000∧(zAr l i).length≤9:=by
 have hl:(zAr l i).length≤9:=by
  have:=zH6 l
  match i with
  | 0 => simp [zAr];omega
  | 1 => simp [zAr];omega
  | 2 => simp [zAr];omega
  | 3 => simp [zAr];omega
 have hs:∀ s ∈ zAr l i,s.size≤20:=by
  intro s hs
  match i,hs with
  | 0,hs =>
   rcases List.mem_cons.1 hs with rfl | hs
   ·decide
   ·obtain ⟨x,hx,rfl⟩:=List.mem_map.1 hs;exact zNB (zCs l x hx)
  | 1,hs =>
   rcases List.mem_cons.1 hs with rfl | hs
   ·decide
   ·obtain ⟨x,hx,rfl⟩:=List.mem_map.1 hs;exact zF5 (zCl l x hx).1 (zCl l x hx).2
  | 2,hs =>
   rcases List.mem_cons.1 hs with rfl | hs
   ·decide
   ·obtain ⟨x,hx,rfl⟩:=List.mem_map.1 hs;exact zEF (zEY l x hx)
  | 3,hs =>
   rcases List.mem_cons.1 hs with rfl | hs
   ·decide
   ·obtain ⟨x,hx,rfl⟩:=List.mem_map.1 hs;exact zF5 (zD3 l x hx).1 (zD3 l x hx).2
 have:=zKh (ws:=(zAr l i).map fun s => s.data.toList) (K:=20) (fun x hx => by
  obtain ⟨s,h1,rfl⟩:=List.mem_map.1 hx
  have h2:s.data.toList.length=s.size:=Array.length_toList
  have:=hs s h1
  omega)
 rw [List.length_map] at this
 have h3:(zAr l i).length * (20 + 1)≤9 * 21:=Nat.mul_le_mul hl (Nat.le_refl _)
 unfold zDS
 exact ⟨by omega,hl⟩
def zLQ (l:List ByteArray) (e:Ending):Prop:=(zBF l=0∧e=.returned (.tuple #[.string ⟨(zGp l).toArray⟩,.int .i64 0]))∨(zBF l=3∧e=.returned (.tuple #[.string ⟨#[]⟩,.int .i64 3]))
theorem zLP (a:Option Addr) (c:Nat) (l:List ByteArray) (w:World) (hl:zAs w a l) (hn:l.length≤9223372036854775807) (hv:Vars w) :
  Calls Tryz.prog 52 #[.slice a l.length c] w fun e w' => zLQ l e∧Below w.heap.size w w':=by
 have chk:=zET a c l w hl hn
 have wl:=zH6 l
 go_enter Tryz.func52,Tryz.ntmps52
 go_wp2_with fail
 go_at_call 81
 refine chk.mono ?_
 rintro e W1 ⟨rfl,b1⟩
 rcases zFN l with h0 | h0
 rotate_left
 ·rw [h0]
  have H0:=Lib.hid h0
  clear h0
  go_wp2_with fail
  go_ret2
  exact ⟨.inr ⟨H0.out,rfl⟩,b1⟩
 rw [h0]
 have H0:=Lib.hid h0
 clear h0 chk
 go_upto_region 7 with fail
 obtain ⟨X,hX⟩:∃ x:World,x=((((W1.alloc (.cells #[.pointer none,.slice none 0 0] 207)).alloc (.cells #[.string ⟨#[101,120,112,111,115,101,100]⟩] 9)).alloc (.cells #[.string ⟨#[115,112,97,110,115]⟩] 9)).alloc (.cells #[.string ⟨#[115,117,114,101]⟩] 9)).alloc (.cells #[.string ⟨#[111,119,101,100]⟩] 9):=⟨_,rfl⟩
 have rep0:Rep W1.heap.size X (L0 W1.heap.size):=by
  rw [hX]
  refine ⟨((((Cells.new W1 _ _).alloc _).alloc _).alloc _).alloc _,fun i => ?_,fun i j hij => ?_⟩
  ·match i with
   | 0 => exact (((zGy (W1.alloc _) (zBE 0) _ _ (by first | (simp;done) | (simp;rfl)) (by simp [L0])).alloc _).alloc _).alloc _
   | 1 => exact ((zGy ((W1.alloc _).alloc _) (zBE 1) _ _ (by first | (simp;done) | (simp;rfl)) (by simp [L0])).alloc _).alloc _
   | 2 => exact (zGy (((W1.alloc _).alloc _).alloc _) (zBE 2) _ _ (by first | (simp;done) | (simp;rfl)) (by simp [L0])).alloc _
   | 3 => exact zGy ((((W1.alloc _).alloc _).alloc _).alloc _) (zBE 3) _ _ (by first | (simp;done) | (simp;rfl)) (by simp [L0])
  ·intro y z hy hz e
   cases hy
   cases hz
   have e:W1.heap.size + 1 + i.val=W1.heap.size + 1 + j.val:=e
   exact hij (Fin.ext (by omega))
 have bX:Below w.heap.size w X:=by
  rw [hX]
  have hz:=b1.size
  exact ((((b1.alloc hz _).alloc (by simp;omega) _).alloc (by simp;omega) _).alloc (by simp;omega) _).alloc (by simp;omega) _
 rw [← hX]
 have lb:=rep0.cb.lt
 have hbb:w.heap.size≤W1.heap.size:=b1.size
 clear hX b1
 generalize hb0:W1.heap.size=b at *
 clear hb0
 go_wp2_with fail
 go_at_call 45
 refine (zGG a c l X (hl.below bX) hn (hv.below bX)).mono ?_
 rintro e Xa ⟨⟨ad0,cd0,rfl,hd0⟩,hba⟩
 have ws0:=zCs l
 have wl0:=wl.1
 obtain ⟨D0,hD0⟩:∃ D,zAq l=D:=⟨_,rfl⟩
 rw [hD0] at hd0 ws0 wl0 ⊢
 have HD0:=Lib.hid hD0
 clear hD0
 have bX0:Below w.heap.size w Xa:=bX.trans (hba.mono bX.size)
 obtain ⟨Lp0,hLp0⟩:∃ L,L0 b=L:=⟨_,rfl⟩
 have hp0:Lp0 0=L0 b 0:=by rw [hLp0]
 have hq0:∀ j,Lp0 j=L0 b j:=fun j => by rw [hLp0]
 replace rep0:Rep b Xa Lp0:=by rw [← hLp0];exact rep0.below hba
 clear hLp0 bX hba
 generalize hXE:zBU l=E0
 clear hXE
 go_wp2_with fail
 go_loopw [7,14,15,44] (fun v_ _ _ ix Z => ∃ (k:Nat) (L:Fin 4→Option Addr × Nat × List ByteArray),k≤D0.length∧ix=.int .i64 k∧v_=.slice (L 0).1 (L 0).2.2.length (L 0).2.1∧(L 0).2.2=zBE 0 :: (D0.take k).map dayW∧(∀ j,j≠0→L j=Lp0 j)∧Rep b Z L∧IntsAt Z ad0 D0∧(D0≠[]→Apart (L 0).1 ad0)∧Below w.heap.size w Z) (fun _ _ _ ix _ => D0.length - (intOf ix).toNat)
 case atStart => exact ⟨0,Lp0,Nat.zero_le _,rfl,by rw [hp0];rfl,by rw [hp0];rfl,fun _ _ => rfl,rep0,hd0,zEa rep0 hp0 hd0,bX0⟩
 case round =>
  obtain ⟨k,L,hk,rfl,rfl,hw,hoth,rep,hd,hap,bZ⟩:=hrel
  have lbz:=rep.cb.lt
  by_cases hlt:k < D0.length
  ·have hkI:(k:Int) < (D0.length:Int):=by omega
   have hk0:(0:Int)≤(k:Int):=by omega
   have iw:IntKind.i64.wrap ((k:Int) + 1)=(k:Int) + 1:=IntWalk.i64_in _ (by omega)
   have HL:=Lib.hid (show (L 0).2.2.length=k + 1 by rw [hw];simp;omega)
   have HW:=Lib.hid hw
   clear hw
   have ow:=rep.own 0
   have hsm:=ws0 _ (List.getElem_mem hlt)
   obtain ⟨d,off,hda,hld,hc⟩:=hd k hlt
   obtain ⟨n,hn⟩:∃ n,D0[k]=n:=⟨_,rfl⟩
   rw [List.getD_eq_getElem?_getD,List.getElem?_eq_getElem hlt,Option.getD_some,hn] at hc
   rw [hn] at hsm
   have HN:=Lib.hid hn
   clear hn
   subst hda
   have hvz:=hv.below bZ
   by_cases hs:0≤n
   ·have hdw:dayW n=numW n:=if_pos hs
    go_wp2_with fail
    go_at_call 109
    refine (zHB n hsm wr hvz).mono ?_
    rintro e w1 ⟨rfl,hb1⟩
    go_wp2_with (at_builtin;refine zAu zIN rfl _ _ rfl (b + 1) (L 0).1 (L 0).2.2.length (L 0).2.1 _ rfl (ow.kept hb1) 1 1 rfl rfl (fun u hu => ?c1) ?c2 ?c3 ?c4 ?_)
    case c1 => simp at hu;subst hu;rfl
    case c2 => rw [HL.out];unfold maxLen;omega
    case c3 => rw [HL.out];omega
    case c4 => have:=(hb1).size;omega
    intro a' c' w2 own2 b2 z2 hk2
    have repb:=rep.below hb1
    have hr2:=repb.app 0 (a':=a') (c':=c') (ws:=(L 0).2.2 ++ [numW n]) (by rw [List.length_append,List.map_append];exact own2) b2 z2 hk2
    obtain ⟨hd2,hap2⟩:=zFK (hd.below hb1) hap z2 hk2
    go_wp2_with fail
    go_round
    case rel =>
     refine ⟨k + 1,_,by omega,by go_num,?_,?_,fun j hj => ?_,hr2,hd2,hap2,bZ.trans (((hb1).mono bZ.size).trans (b2.mono (by omega)))⟩
     ·simp [setF]
     ·simp only [setF,if_pos];rw [HW.out,List.take_succ_eq_append_getElem hlt,HN.out,List.map_append,List.cons_append,List.map_cons,List.map_nil,hdw]
     ·simp only [setF,if_neg hj];exact hoth j hj
    case measure => simp [intOf];omega
   ·have hdw:dayW n=zJe:=if_neg hs
    go_wp2_with (at_builtin;refine zAu zIN rfl _ _ rfl (b + 1) (L 0).1 (L 0).2.2.length (L 0).2.1 _ rfl (ow.kept (Below.refl wr.heap.size wr)) 1 1 rfl rfl (fun u hu => ?c1) ?c2 ?c3 ?c4 ?_)
    case c1 => simp at hu;subst hu;rfl
    case c2 => rw [HL.out];unfold maxLen;omega
    case c3 => rw [HL.out];omega
    case c4 => have:=((Below.refl wr.heap.size wr)).size;omega
    intro a' c' w2 own2 b2 z2 hk2
    have repb:=rep.below (Below.refl wr.heap.size wr)
    have hr2:=repb.app 0 (a':=a') (c':=c') (ws:=(L 0).2.2 ++ [zJe]) (by rw [List.length_append,List.map_append];exact own2) b2 z2 hk2
    obtain ⟨hd2,hap2⟩:=zFK (hd.below (Below.refl wr.heap.size wr)) hap z2 hk2
    go_wp2_with fail
    go_round
    case rel =>
     refine ⟨k + 1,_,by omega,by go_num,?_,?_,fun j hj => ?_,hr2,hd2,hap2,bZ.trans ((((Below.refl wr.heap.size wr)).mono bZ.size).trans (b2.mono (by omega)))⟩
     ·simp [setF]
     ·simp only [setF,if_pos];rw [HW.out,List.take_succ_eq_append_getElem hlt,HN.out,List.map_append,List.cons_append,List.map_cons,List.map_nil,hdw]
     ·simp only [setF,if_neg hj];exact hoth j hj
    case measure => simp [intOf];omega
  ·obtain rfl:k=D0.length:=by omega
   rw [List.take_length] at hw
   go_wp2_with fail
   go_at_call 29
   refine (zGl a c l wr (hl.below bZ) hn (hv.below bZ)).mono ?_
   rintro e Xb ⟨⟨ad1,cd1,ad2,cd2,rfl,hd1,hd2_⟩,hbx⟩
   have ws1:=zCl l
   have ws2:=zEY l
   have wl1:=wl.2.1
   have wl2:=wl.2.2.1
   obtain ⟨D1,hD1⟩:∃ D,zC0 l=D:=⟨_,rfl⟩
   obtain ⟨D2,hD2⟩:∃ D,zDv l=D:=⟨_,rfl⟩
   rw [hD1] at hd1 ws1 wl1 ⊢
   rw [hD2] at hd2_ ws2 wl2 ⊢
   have HD1:=Lib.hid hD1
   have HD2:=Lib.hid hD2
   clear hD1 hD2
   have bX1:Below w.heap.size w Xb:=bZ.trans (hbx.mono bZ.size)
   obtain ⟨Lp1,hLp1⟩:∃ x,L=x:=⟨_,rfl⟩
   rw [hLp1] at hw hoth rep hap ⊢
   have hp1:Lp1 1=L0 b 1:=(hoth 1 (by decide)).trans (hq0 1)
   have hq1:∀ j,j≠0→Lp1 j=L0 b j:=fun j hj => (hoth j hj).trans (hq0 j)
   have HW0:=Lib.hid hw
   have rep1:=rep.below hbx
   clear hLp1 hw hoth rep hap hd hbx bZ
   generalize zBk l=E1
   go_wp2_with fail
   go_loopw [8,20,65] (fun v_ _ ix Z => ∃ (k:Nat) (L:Fin 4→Option Addr × Nat × List ByteArray),k≤D1.length∧ix=.int .i64 k∧v_=.slice (L 1).1 (L 1).2.2.length (L 1).2.1∧(L 1).2.2=zBE 1 :: (D1.take k).map zCI∧(∀ j,j≠1→L j=Lp1 j)∧Rep b Z L∧zAX Z ad1 D1∧(D1≠[]→Apart (L 1).1 ad1)∧IntsAt Z ad2 D2∧(D2≠[]→Apart (L 1).1 ad2)∧Below w.heap.size w Z) (fun _ _ ix _ => D1.length - (intOf ix).toNat)
   case atStart => exact ⟨0,Lp1,Nat.zero_le _,rfl,by rw [hp1];rfl,by rw [hp1];rfl,fun _ _ => rfl,rep1,hd1,zG0 rep1 hp1 hd1,hd2_,zEa rep1 hp1 hd2_,bX1⟩
   case round =>
    obtain ⟨k,L,hk,rfl,rfl,hw,hoth,rep,hd,hap,hds,haps,bZ⟩:=hrel
    have lbz:=rep.cb.lt
    by_cases hlt:k < D1.length
    ·have hkI:(k:Int) < (D1.length:Int):=by omega
     have hk0:(0:Int)≤(k:Int):=by omega
     have iw:IntKind.i64.wrap ((k:Int) + 1)=(k:Int) + 1:=IntWalk.i64_in _ (by omega)
     have HL:=Lib.hid (show (L 1).2.2.length=k + 1 by rw [hw];simp;omega)
     have HW:=Lib.hid hw
     clear hw
     have ow:=rep.own 1
     have hsm:=ws1 _ (List.getElem_mem hlt)
     obtain ⟨d,off,hda,hld,hc,hc2⟩:=hd k hlt
     obtain ⟨n,hn⟩:∃ n,D1[k]=n:=⟨_,rfl⟩
     rw [hn] at hc hc2 hsm
     have HN:=Lib.hid hn
     clear hn
     subst hda
     have hvz:=hv.below bZ
     obtain ⟨n1,n2⟩:=n
     simp only [] at hc hc2 hsm
     go_wp2_with fail
     go_at_call 110
     refine (zHe n1 n2 hsm.1 hsm.2 _ (hvz.below (Joins.below_alloc1 _ _))).mono ?_
     rintro e w1 ⟨rfl,hb1⟩
     have hb1' : Below wr.heap.size wr w1:=(Joins.below_alloc1 _ _).trans (hb1.mono (by simp))
     go_wp2_with (at_builtin;refine zAu zIN rfl _ _ rfl (b + 1) (L 1).1 (L 1).2.2.length (L 1).2.1 _ rfl (ow.kept hb1') 1 1 rfl rfl (fun u hu => ?c1) ?c2 ?c3 ?c4 ?_)
     case c1 => simp at hu;subst hu;rfl
     case c2 => rw [HL.out];unfold maxLen;omega
     case c3 => rw [HL.out];omega
     case c4 => have:=(hb1').size;omega
     intro a' c' w2 own2 b2 z2 hk2
     have repb:=rep.below hb1'
     have hr2:=repb.app 1 (a':=a') (c':=c') (ws:=(L 1).2.2 ++ [zCI (n1,n2)]) (by rw [List.length_append,List.map_append];exact own2) b2 z2 hk2
     obtain ⟨hd2,hap2⟩:=zJb (hd.below hb1') hap z2 hk2
     obtain ⟨hs2,hps2⟩:=zFK (hds.below hb1') haps z2 hk2
     go_wp2_with fail
     go_round
     case rel =>
      refine ⟨k + 1,_,by omega,by go_num,?_,?_,fun j hj => ?_,hr2,hd2,hap2,hs2,hps2,bZ.trans (((hb1').mono bZ.size).trans (b2.mono (by omega)))⟩
      ·simp [setF]
      ·simp only [setF,if_pos];rw [HW.out,List.take_succ_eq_append_getElem hlt,HN.out,List.map_append,List.cons_append,List.map_cons,List.map_nil]
      ·simp only [setF,if_neg hj];exact hoth j hj
     case measure => simp [intOf];omega
    ·obtain rfl:k=D1.length:=by omega
     rw [List.take_length] at hw
     obtain ⟨Lp2,hLp2⟩:∃ x,L=x:=⟨_,rfl⟩
     rw [hLp2] at hw hoth rep hap haps ⊢
     have hp2:Lp2 2=L0 b 2:=(hoth 2 (by decide)).trans (hq1 2 (by decide))
     have hq2:∀ j,j≠0→j≠1→Lp2 j=L0 b j:=fun j h0 h1 => (hoth j h1).trans (hq1 j h0)
     have HW1:=Lib.hid hw
     have HW0:=Lib.hid ((congrArg (fun x => x.2.2) (hoth 0 (by decide))).trans HW0.out)
     have rep2:=rep
     have K2:=Lib.hid hoth
     have hd2:=hds
     have bX2:=bZ
     clear hLp2 hw hoth rep hap hd hds haps bZ
     go_wp2_with fail
     go_loopw [9,22,80] (fun v_ _ ix Z => ∃ (k:Nat) (L:Fin 4→Option Addr × Nat × List ByteArray),k≤D2.length∧ix=.int .i64 k∧v_=.slice (L 2).1 (L 2).2.2.length (L 2).2.1∧(L 2).2.2=zBE 2 :: (D2.take k).map numW∧(∀ j,j≠2→L j=Lp2 j)∧Rep b Z L∧IntsAt Z ad2 D2∧(D2≠[]→Apart (L 2).1 ad2)∧Below w.heap.size w Z) (fun _ _ ix _ => D2.length - (intOf ix).toNat)
     case atStart => exact ⟨0,Lp2,Nat.zero_le _,rfl,by rw [hp2];rfl,by rw [hp2];rfl,fun _ _ => rfl,rep2,hd2,zEa rep2 hp2 hd2,bX2⟩
     case round =>
      obtain ⟨k,L,hk,rfl,rfl,hw,hoth,rep,hd,hap,bZ⟩:=hrel
      have lbz:=rep.cb.lt
      by_cases hlt:k < D2.length
      ·have hkI:(k:Int) < (D2.length:Int):=by omega
       have hk0:(0:Int)≤(k:Int):=by omega
       have iw:IntKind.i64.wrap ((k:Int) + 1)=(k:Int) + 1:=IntWalk.i64_in _ (by omega)
       have HL:=Lib.hid (show (L 2).2.2.length=k + 1 by rw [hw];simp;omega)
       have HW:=Lib.hid hw
       clear hw
       have ow:=rep.own 2
       have hsm:=ws2 _ (List.getElem_mem hlt)
       obtain ⟨d,off,hda,hld,hc⟩:=hd k hlt
       obtain ⟨n,hn⟩:∃ n,D2[k]=n:=⟨_,rfl⟩
       rw [List.getD_eq_getElem?_getD,List.getElem?_eq_getElem hlt,Option.getD_some,hn] at hc
       rw [hn] at hsm
       have HN:=Lib.hid hn
       clear hn
       subst hda
       have hvz:=hv.below bZ
       go_wp2_with fail
       go_at_call 109
       refine (zHB n hsm wr hvz).mono ?_
       rintro e w1 ⟨rfl,hb1⟩
       go_wp2_with (at_builtin;refine zAu zIN rfl _ _ rfl (b + 1) (L 2).1 (L 2).2.2.length (L 2).2.1 _ rfl (ow.kept hb1) 1 1 rfl rfl (fun u hu => ?c1) ?c2 ?c3 ?c4 ?_)
       case c1 => simp at hu;subst hu;rfl
       case c2 => rw [HL.out];unfold maxLen;omega
       case c3 => rw [HL.out];omega
       case c4 => have:=(hb1).size;omega
       intro a' c' w2 own2 b2 z2 hk2
       have repb:=rep.below hb1
       have hr2:=repb.app 2 (a':=a') (c':=c') (ws:=(L 2).2.2 ++ [numW n]) (by rw [List.length_append,List.map_append];exact own2) b2 z2 hk2
       obtain ⟨hd2,hap2⟩:=zFK (hd.below hb1) hap z2 hk2
       go_wp2_with fail
       go_round
       case rel =>
        refine ⟨k + 1,_,by omega,by go_num,?_,?_,fun j hj => ?_,hr2,hd2,hap2,bZ.trans (((hb1).mono bZ.size).trans (b2.mono (by omega)))⟩
        ·simp [setF]
        ·simp only [setF,if_pos];rw [HW.out,List.take_succ_eq_append_getElem hlt,HN.out,List.map_append,List.cons_append,List.map_cons,List.map_nil]
        ·simp only [setF,if_neg hj];exact hoth j hj
       case measure => simp [intOf];omega
      ·obtain rfl:k=D2.length:=by omega
       rw [List.take_length] at hw
       go_wp2_with fail
       go_at_call 50
       refine (zKD a c l wr (hl.below bZ) hn (hv.below bZ)).mono ?_
       rintro e Xc ⟨⟨ad3,cd3,rfl,hd3⟩,hbx⟩
       have ws3:=zD3 l
       have wl3:=wl.2.2.2
       obtain ⟨D3,hD3⟩:∃ D,zEE l=D:=⟨_,rfl⟩
       rw [hD3] at hd3 ws3 wl3 ⊢
       have HD3:=Lib.hid hD3
       clear hD3
       have bX3:Below w.heap.size w Xc:=bZ.trans (hbx.mono bZ.size)
       obtain ⟨Lp3,hLp3⟩:∃ x,L=x:=⟨_,rfl⟩
       rw [hLp3] at hw hoth rep hap ⊢
       have hp3:Lp3 3=L0 b 3:=(hoth 3 (by decide)).trans (hq2 3 (by decide) (by decide))
       have HW2:=Lib.hid hw
       have HW1:=Lib.hid ((congrArg (fun x => x.2.2) (hoth 1 (by decide))).trans HW1.out)
       have HW0:=Lib.hid ((congrArg (fun x => x.2.2) (hoth 0 (by decide))).trans HW0.out)
       have rep3:=rep.below hbx
       have K3:=Lib.hid hoth
       clear hLp3 hw hoth rep hap hd hbx bZ
       generalize zEw l=E3
       go_wp2_with fail
       go_loopw [10,26,97] (fun v_ _ ix Z => ∃ (k:Nat) (L:Fin 4→Option Addr × Nat × List ByteArray),k≤D3.length∧ix=.int .i64 k∧v_=.slice (L 3).1 (L 3).2.2.length (L 3).2.1∧(L 3).2.2=zBE 3 :: (D3.take k).map zCI∧(∀ j,j≠3→L j=Lp3 j)∧Rep b Z L∧zAX Z ad3 D3∧(D3≠[]→Apart (L 3).1 ad3)∧Below w.heap.size w Z) (fun _ _ ix _ => D3.length - (intOf ix).toNat)
       case atStart => exact ⟨0,Lp3,Nat.zero_le _,rfl,by rw [hp3];rfl,by rw [hp3];rfl,fun _ _ => rfl,rep3,hd3,zG0 rep3 hp3 hd3,bX3⟩
       case round =>
        obtain ⟨k,L,hk,rfl,rfl,hw,hoth,rep,hd,hap,bZ⟩:=hrel
        have lbz:=rep.cb.lt
        by_cases hlt:k < D3.length
        ·have hkI:(k:Int) < (D3.length:Int):=by omega
         have hk0:(0:Int)≤(k:Int):=by omega
         have iw:IntKind.i64.wrap ((k:Int) + 1)=(k:Int) + 1:=IntWalk.i64_in _ (by omega)
         have HL:=Lib.hid (show (L 3).2.2.length=k + 1 by rw [hw];simp;omega)
         have HW:=Lib.hid hw
         clear hw
         have ow:=rep.own 3
         have hsm:=ws3 _ (List.getElem_mem hlt)
         obtain ⟨d,off,hda,hld,hc,hc2⟩:=hd k hlt
         obtain ⟨n,hn⟩:∃ n,D3[k]=n:=⟨_,rfl⟩
         rw [hn] at hc hc2 hsm
         have HN:=Lib.hid hn
         clear hn
         subst hda
         have hvz:=hv.below bZ
         obtain ⟨n1,n2⟩:=n
         simp only [] at hc hc2 hsm
         go_wp2_with fail
         go_at_call 110
         refine (zHe n1 n2 hsm.1 hsm.2 _ (hvz.below (Joins.below_alloc1 _ _))).mono ?_
         rintro e w1 ⟨rfl,hb1⟩
         have hb1' : Below wr.heap.size wr w1:=(Joins.below_alloc1 _ _).trans (hb1.mono (by simp))
         go_wp2_with (at_builtin;refine zAu zIN rfl _ _ rfl (b + 1) (L 3).1 (L 3).2.2.length (L 3).2.1 _ rfl (ow.kept hb1') 1 1 rfl rfl (fun u hu => ?c1) ?c2 ?c3 ?c4 ?_)
         case c1 => simp at hu;subst hu;rfl
         case c2 => rw [HL.out];unfold maxLen;omega
         case c3 => rw [HL.out];omega
         case c4 => have:=(hb1').size;omega
         intro a' c' w2 own2 b2 z2 hk2
         have repb:=rep.below hb1'
         have hr2:=repb.app 3 (a':=a') (c':=c') (ws:=(L 3).2.2 ++ [zCI (n1,n2)]) (by rw [List.length_append,List.map_append];exact own2) b2 z2 hk2
         obtain ⟨hd2,hap2⟩:=zJb (hd.below hb1') hap z2 hk2
         go_wp2_with fail
         go_round
         case rel =>
          refine ⟨k + 1,_,by omega,by go_num,?_,?_,fun j hj => ?_,hr2,hd2,hap2,bZ.trans (((hb1').mono bZ.size).trans (b2.mono (by omega)))⟩
          ·simp [setF]
          ·simp only [setF,if_pos];rw [HW.out,List.take_succ_eq_append_getElem hlt,HN.out,List.map_append,List.cons_append,List.map_cons,List.map_nil]
          ·simp only [setF,if_neg hj];exact hoth j hj
         case measure => simp [intOf];omega
        ·obtain rfl:k=D3.length:=by omega
         rw [List.take_length] at hw
         have e0:(L 0).2.2=zAr l 0:=by rw [hoth 0 (by decide),HW0.out,← HD0.out];rfl
         have e1:(L 1).2.2=zAr l 1:=by rw [hoth 1 (by decide),HW1.out,← HD1.out];rfl
         have e2:(L 2).2.2=zAr l 2:=by rw [hoth 2 (by decide),HW2.out,← HD2.out];rfl
         have e3:(L 3).2.2=zAr l 3:=by rw [hw,← HD3.out];rfl
         obtain ⟨g0,f0⟩:=zJ8 rep (e0.trans rfl:(L 0).2.2=zBE 0 :: _)
         obtain ⟨g1,f1⟩:=zJ8 rep (e1.trans rfl:(L 1).2.2=zBE 1 :: _)
         obtain ⟨g2,f2⟩:=zJ8 rep (e2.trans rfl:(L 2).2.2=zBE 2 :: _)
         obtain ⟨g3,f3⟩:=zJ8 rep (e3.trans rfl:(L 3).2.2=zBE 3 :: _)
         have E0:Lp1 0=L 0:=((hoth 0 (by decide)).trans ((K3.out 0 (by decide)).trans (K2.out 0 (by decide)))).symm
         have E1:Lp2 1=L 1:=((hoth 1 (by decide)).trans (K3.out 1 (by decide))).symm
         have E2:Lp3 2=L 2:=(hoth 2 (by decide)).symm
         have o0:=rep.own 0
         have o1:=rep.own 1
         have o2:=rep.own 2
         have o3:=rep.own 3
         rw [f0,e0] at o0
         rw [f1,e1] at o1
         rw [f2,e2] at o2
         rw [f3,e3] at o3
         rw [E0,E1,E2,f0,f1,f2,f3,e0,e1,e2,e3]
         obtain ⟨j0,n0⟩:=zD6 l 0
         obtain ⟨j1,n1⟩:=zD6 l 1
         obtain ⟨j2,n2⟩:=zD6 l 2
         obtain ⟨j3,n3⟩:=zD6 l 3
         have hf:zGp l=zGz (zAr l 0) ++ zGz (zAr l 1) ++ zGz (zAr l 2) ++ zGz (zAr l 3):=rfl
         have bu:=zJM rep.cb
         have lw:=rep.cb.lt
         have Hf:=Lib.hid hf
         obtain ⟨w0,hw0⟩:∃ q,zAr l 0=q:=⟨_,rfl⟩
         obtain ⟨w1,hw1⟩:∃ q,zAr l 1=q:=⟨_,rfl⟩
         obtain ⟨w2,hw2⟩:∃ q,zAr l 2=q:=⟨_,rfl⟩
         obtain ⟨w3,hw3⟩:∃ q,zAr l 3=q:=⟨_,rfl⟩
         rw [hw0] at o0 j0 n0 Hf ⊢
         rw [hw1] at o1 j1 n1 Hf ⊢
         rw [hw2] at o2 j2 n2 Hf ⊢
         rw [hw3] at o3 j3 n3 Hf ⊢
         have r0:(zDS w0 ++ [10]).length≤1001:=by simp;omega
         have r1:(zDS w1 ++ [10]).length≤1001:=by simp;omega
         have r2:(zDS w2 ++ [10]).length≤1001:=by simp;omega
         clear hf e0 e1 e2 e3 f0 f1 f2 f3 E0 E1 E2 hw0 hw1 hw2 hw3 hw hoth hap hd rep
         go_wp2_with fail
         go_at_call 106
         refine (zGr b b g0 _ (b + 1) [] w0 wr bu o0 (by omega) (by omega) (by simp) (by omega)).mono ?_
         rintro e Y1 ⟨rfl,u1,c1,k1⟩
         have z1:=c1.size
         go_wp2_with fail
         go_at_call 106
         refine (zGr b b g1 _ (b + 1) _ w1 Y1 u1 (o1.others (by omega) k1) (by omega) (by omega) (by rw [List.nil_append];omega) (by omega)).mono ?_
         rintro e Y2 ⟨rfl,u2,c2,k2⟩
         have z2:=c2.size
         go_wp2_with fail
         go_at_call 106
         refine (zGr b b g2 _ (b + 1) _ w2 Y2 u2 ((o2.others (by omega) k1).others (by omega) k2) (by omega) (by omega) (by rw [List.nil_append,List.length_append];omega) (by omega)).mono ?_
         rintro e Y3 ⟨rfl,u3,c3,k3⟩
         have z3:=c3.size
         go_wp2_with fail
         go_at_call 106
         refine (zGr b b g3 _ (b + 1) _ w3 Y3 u3 (((o3.others (by omega) k1).others (by omega) k2).others (by omega) k3) (by omega) (by omega) (by rw [List.nil_append,List.length_append,List.length_append];omega) (by omega)).mono ?_
         rintro e Y4 ⟨rfl,u4,c4,k4⟩
         have z4:=c4.size
         go_wp2_with fail
         go_at_call 111
         refine (Tryz.Builder_String_any_k b b _ Y4 u4 (by omega)).mono ?_
         rintro e Y5 ⟨rfl,_,c5,_⟩
         go_wp2_with fail
         go_ret2
         refine ⟨.inl ⟨H0.out,?_⟩,bZ.trans ((((c1.trans c2).trans c3).trans c4).trans c5 |>.mono (by omega))⟩
         rw [Hf.out]
         simp [zGz]
end Go.Proofs.YticjeianiahppaaGreatDoor
