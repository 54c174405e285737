/- The session book: contracts of the program and of the laws' helpers, joined (Nb). -/
import Derived.Test.YticjeianiahppaaGreatDoorBR
import Derived.Test.YticjeianiahppaaGreatDoorBQ
import Derived.Test.YticjeianiahppaaGreatDoorBT
set_option linter.unusedVariables false
set_option linter.unusedSimpArgs false
set_option linter.unnecessarySimpa false
set_option maxRecDepth 100000
set_option maxHeartbeats 40000000
namespace Go.Proofs.YticjeianiahppaaGreatDoor
open Go.RowKit Go.Flow
abbrev zeroCells:Array Value:=#[.int .i64 0,.int .i64 0,.slice none 0 0,.slice none 0 0,.slice none 0 0,.slice none 0 0,.slice none 0 0,.int .i64 0,.slice none 0 0,.int .i64 0,.int .i64 0,.int .i64 0,.slice none 0 0]
abbrev zAV (l:List ByteArray):BSt:=zBa BSt.begun l
theorem zFM {l:List ByteArray} (h:zBF l=0):l.length≤50∧∀ s ∈ l,s.size≤80:=by
 unfold zBF at h
 split at h
 ·rename_i h1
  simp only [Bool.and_eq_true,decide_eq_true_eq,List.all_eq_true] at h1
  exact ⟨h1.1,fun s hs => by simpa [zDH] using h1.2 s hs⟩
 ·cases h
theorem zFN (l:List ByteArray):zBF l=0∨zBF l=3:=by
 unfold zBF
 split
 ·exact .inl rfl
 ·exact .inr rfl
def zOh (l:List ByteArray) (e:Ending) (w' : World):Prop :=
 (zBF l=0∧∃ A,e=.returned (.tuple #[.agg (zAW (zAV l) A),.int .i64 0])∧Lists w' (zAV l) A)∨(zBF l=3∧e=.returned (.tuple #[.agg zeroCells,.int .i64 3]))
theorem zEB {fn:Func} {c t:Tmp} {T:TypeId} {tmps:Array Value} {P:Program} {w:World} {a:Addr} {v x:Value} (h:fn.results=#[.cell c T,.tmp t]) (ha:tmps.getD c undef=.pointer (some a))
  (hv:(loadVar T a).run P w=.ok v w) (hx:tmps.getD t undef=x):(results fn tmps).run P w=.ok (.tuple #[v,x]) w:=by
 rw [Array.getD_eq_getD_getElem?] at ha hx
 simp [results,h,ha,hx,asAddr,hv]
theorem zC8 {w:World} {g:Nat} (h:g < w.heap.size) (v0 v1 v2 v3 v4 v5 v6 v7 v8 v9 v10 v11 v12:Value) :
  KeepG g w (((((((((((((w.setCell ⟨g,0,none⟩ v0).setCell ⟨g,1,none⟩ v1).setCell ⟨g,2,none⟩ v2).setCell ⟨g,3,none⟩ v3).setCell ⟨g,4,none⟩ v4).setCell ⟨g,5,none⟩ v5).setCell ⟨g,6,none⟩ v6).setCell ⟨g,7,none⟩ v7).setCell ⟨g,8,none⟩ v8).setCell ⟨g,9,none⟩ v9).setCell ⟨g,10,none⟩ v10).setCell ⟨g,11,none⟩ v11).setCell ⟨g,12,none⟩ v12) :=
 (((((((((((((KeepG.refl h).set 0 v0).set 1 v1).set 2 v2).set 3 v3).set 4 v4).set 5 v5).set 6 v6).set 7 v7).set 8 v8).set 9 v9).set 10 v10).set 11 v11).set 12 v12
theorem Shows.keepG {g:Nat} {w w' : World} (h:KeepG g w w'):Shows (hidL [g] w) w':=(zAn (bs':=[]) h.size fun j hj hn => by
 have hn2:j≠g:=by simpa using hn
 refine ⟨by simp,?_⟩
 have:=h.below.block j hj
 rwa [zAG w hn2,zAG w' hn2] at this).trans (zBD _ _)
theorem zG8 {w:World} {hd g b d:Nat} {S:BSt} {A:Adr} (h:Lists (mask hd g w) S A) (hb:b≤g) (hd2:d≤g):Lists (hidL [b,d] w) S A :=
 h.shows ⟨by rw [zAJ];show _≤(hidW _ w).heap.size;rw [zFL];exact Nat.le_refl _,fun p v q => by
  have h1:=zEp q
  have h2:(mask hd g w).cell? p=w.cell? p:=zDM w h1.1 h1.2
  rw [h2] at q
  show (hidW _ w).cell? p=some v
  rw [zDm w (by simp;omega)];exact q⟩
theorem zGq (a:Option Addr) (c:Nat) (l:List ByteArray) (w:World) (hl:zAs w a l) (hn:l.length≤9223372036854775807) (hv:Vars w) :
  Calls Tryz.prog 84 #[.slice a l.length c] w fun e w' => zOh l e w'∧Below w.heap.size w w':=by
 have chk:=fun w' h => zET a c l w' h hn
 go_enter Tryz.func84,Tryz.ntmps84
 go_upto_region 1 with fail
 obtain ⟨W1,hW⟩:∃ x:World,x=w.alloc (.cells zeroCells 57):=⟨_,rfl⟩
 have b1:Below w.heap.size w W1:=by rw [hW];exact Joins.below_alloc1 _ _
 have D1:Cells W1 w.heap.size zeroCells 57:=by rw [hW];exact Cells.new _ _ _
 rw [← hW]
 clear hW
 go_wp2_with fail
 go_at_call 81
 refine (chk W1 (hl.below b1)).mono ?_
 rintro e W2 ⟨rfl,hb2⟩
 have b2:=b1.trans (hb2.mono b1.size)
 have D2:=D1.below hb2
 clear D1 hb2 b1 W1 chk
 rcases zFN l with h0 | h0
 ·rw [h0]
  have H0:=Lib.hid h0
  clear h0
  obtain ⟨h50,hs⟩:=zFM H0.out
  go_wp2_with fail
  go_at_call 82
  refine (zJc a c l W2 (hl.below b2) (fun s hx => by have:=hs s hx;omega) (by omega) (hv.below b2)).mono ?_
  rintro e W3 ⟨g,ae,ce,A,rfl,hg,st,own,hb3⟩
  have D3:=D2.below hb3
  have b3:=b2.trans (hb3.mono b2.size)
  have CG:=st.cells
  have hwg:w.heap.size≠g:=by have:=D2.lt;omega
  have hwg2:w.heap.size≤g:=by have:=D2.lt;omega
  have q0:=CG.cell 0
  have q1:=CG.cell 1
  have q2:=CG.cell 2
  have q3:=CG.cell 3
  have q4:=CG.cell 4
  have q5:=CG.cell 5
  have q6:=CG.cell 6
  have q7:=CG.cell 7
  have q8:=CG.cell 8
  have q9:=CG.cell 9
  have q10:=CG.cell 10
  have q11:=CG.cell 11
  have q12:=CG.cell 12
  have r0:=D3.cell 0
  have t0:=D3.frozen 0
  have r1:=D3.cell 1
  have t1:=D3.frozen 1
  have r2:=D3.cell 2
  have t2:=D3.frozen 2
  have r3:=D3.cell 3
  have t3:=D3.frozen 3
  have r4:=D3.cell 4
  have t4:=D3.frozen 4
  have r5:=D3.cell 5
  have t5:=D3.frozen 5
  have r6:=D3.cell 6
  have t6:=D3.frozen 6
  have r7:=D3.cell 7
  have t7:=D3.frozen 7
  have r8:=D3.cell 8
  have t8:=D3.frozen 8
  have r9:=D3.cell 9
  have t9:=D3.frozen 9
  have r10:=D3.cell 10
  have t10:=D3.frozen 10
  have r11:=D3.cell 11
  have t11:=D3.frozen 11
  have r12:=D3.cell 12
  have t12:=D3.frozen 12
  simp at q0 r0 q1 r1 q2 r2 q3 r3 q4 r4 q5 r5 q6 r6 q7 r7 q8 r8 q9 r9 q10 r10 q11 r11 q12 r12
  have lD:=D3.lt
  have lG:=CG.lt
  go_wp2_with fail
  refine bodyPost_ret (zEB rfl rfl (zCG (zB3 D3) rfl) rfl) rfl ⟨.inl ⟨H0.out,A,rfl,?_⟩,?_⟩
  ·exact (zG8 st.lists (b:=w.heap.size) (d:=w.heap.size) (by omega) (by omega)).shows ((zBe _ (by simp)).trans (Shows.keepG (zC8 lD _ _ _ _ _ _ _ _ _ _ _ _ _)))
  ·exact b3.trans ((zC8 lD _ _ _ _ _ _ _ _ _ _ _ _ _).under (Nat.le_refl _))
 ·rw [h0]
  have H0:=Lib.hid h0
  clear h0
  have r0:=D2.cell 0
  have t0:=D2.frozen 0
  have r1:=D2.cell 1
  have t1:=D2.frozen 1
  have r2:=D2.cell 2
  have t2:=D2.frozen 2
  have r3:=D2.cell 3
  have t3:=D2.frozen 3
  have r4:=D2.cell 4
  have t4:=D2.frozen 4
  have r5:=D2.cell 5
  have t5:=D2.frozen 5
  have r6:=D2.cell 6
  have t6:=D2.frozen 6
  have r7:=D2.cell 7
  have t7:=D2.frozen 7
  have r8:=D2.cell 8
  have t8:=D2.frozen 8
  have r9:=D2.cell 9
  have t9:=D2.frozen 9
  have r10:=D2.cell 10
  have t10:=D2.frozen 10
  have r11:=D2.cell 11
  have t11:=D2.frozen 11
  have r12:=D2.cell 12
  have t12:=D2.frozen 12
  simp at r0 r1 r2 r3 r4 r5 r6 r7 r8 r9 r10 r11 r12
  have lD:=D2.lt
  go_wp2_with fail
  exact bodyPost_ret (zEB rfl rfl (zCG (zB3 D2) rfl) rfl) rfl ⟨.inr ⟨H0.out,rfl⟩,b2.trans ((zC8 lD _ _ _ _ _ _ _ _ _ _ _ _ _).under (Nat.le_refl _))⟩
def zOi (bz:Nat) (l:List ByteArray) (e:Ending) (w' : World):Prop :=
 (zBF l=0∧∃ A ae ce,e=.returned (.tuple #[.agg (zAW (zAV l) A),.slice ae l.length ce,.int .i64 0])∧Lists (hidL [bz] w') (zAV l) A∧IntsAt w' ae (zCO BSt.begun l))∨(zBF l=3∧e=.returned (.tuple #[.agg zeroCells,.slice none 0 0,.int .i64 3]))
theorem zCm {fn:Func} {c t u:Tmp} {T:TypeId} {tmps:Array Value} {P:Program} {w:World} {a:Addr} {v x y:Value} (h:fn.results=#[.cell c T,.tmp t,.tmp u]) (ha:tmps.getD c undef=.pointer (some a))
  (hv:(loadVar T a).run P w=.ok v w) (hx:tmps.getD t undef=x) (hy:tmps.getD u undef=y):(results fn tmps).run P w=.ok (.tuple #[v,x,y]) w:=by
 rw [Array.getD_eq_getD_getElem?] at ha hx hy
 simp [results,h,ha,hx,hy,asAddr,hv]
theorem OwnL.ints59 {E:TypeId} {base:Nat} {w:World} {a:Option Addr} {c n:Nat} {zs:List Int} (h:OwnL E 1 base w a c n (zs.map (Value.int .i64))):IntsAt w a zs:=fun k hk => by
 have hs:=SrcAt.own h
 obtain ⟨b,off,ha,hc⟩:=hs k (.int .i64 zs[k]) (by simp [hk])
 exact ⟨b,off,ha,zBl hc,by rw [List.getD_eq_getElem?_getD,List.getElem?_eq_getElem hk];exact hc⟩
theorem zKC (bz:Nat) (a:Option Addr) (c:Nat) (l:List ByteArray) (w:World) (hl:zAs w a l) (hn:l.length≤9223372036854775807) (hv:Vars w) (hbz:bz < w.heap.size) :
  Calls Tryz.prog 28 #[.slice a l.length c] w fun e w' => zOi bz l e w'∧Below w.heap.size w w':=by
 have chk:=fun w' h => zET a c l w' h hn
 go_enter Tryz.func28,Tryz.ntmps28
 go_upto_region 1 with fail
 obtain ⟨W1,hW⟩:∃ x:World,x=w.alloc (.cells zeroCells 57):=⟨_,rfl⟩
 have b1:Below w.heap.size w W1:=by rw [hW];exact Joins.below_alloc1 _ _
 have D1:Cells W1 w.heap.size zeroCells 57:=by rw [hW];exact Cells.new _ _ _
 rw [← hW]
 clear hW
 go_wp2_with fail
 go_at_call 81
 refine (chk W1 (hl.below b1)).mono ?_
 rintro e W2 ⟨rfl,hb2⟩
 have b2:=b1.trans (hb2.mono b1.size)
 have D2:=D1.below hb2
 clear D1 hb2 b1 W1 chk
 rcases zFN l with h0 | h0
 ·rw [h0]
  have H0:=Lib.hid h0
  clear h0
  obtain ⟨h50,hs⟩:=zFM H0.out
  go_wp2_with fail
  go_at_call 82
  refine (zJc a c l W2 (hl.below b2) (fun s hx => by have:=hs s hx;omega) (by omega) (hv.below b2)).mono ?_
  rintro e W3 ⟨g,ae,ce,A,rfl,hg,st,own,hb3⟩
  have D3:=D2.below hb3
  have b3:=b2.trans (hb3.mono b2.size)
  have CG:=st.cells
  have hwg:w.heap.size < g:=by have:=D2.lt;omega
  have bae:∀ x,ae=some x→w.heap.size < x.block:=fun x hx => by have:=(own.low x hx).1;have:=D2.lt;omega
  have q0:=CG.cell 0
  have q1:=CG.cell 1
  have q2:=CG.cell 2
  have q3:=CG.cell 3
  have q4:=CG.cell 4
  have q5:=CG.cell 5
  have q6:=CG.cell 6
  have q7:=CG.cell 7
  have q8:=CG.cell 8
  have q9:=CG.cell 9
  have q10:=CG.cell 10
  have q11:=CG.cell 11
  have q12:=CG.cell 12
  simp at q0 q1 q2 q3 q4 q5 q6 q7 q8 q9 q10 q11 q12
  have lG:=CG.lt
  go_wp2_with fail
  go_at_call 83
  refine (zNM w.heap.size bz (zAV l) A W3 D3.lt (by have:=D3.lt;omega) (zG8 st.lists (by omega) (by omega)) (zHM Few.begun l)).mono ?_
  rintro e W4 ⟨A',rfl,hL4,hb4⟩
  have D4:=D3.below hb4
  have b4:=b3.trans (hb4.mono b3.size)
  replace own:=own.kept hb4
  clear q0 q1 q2 q3 q4 q5 q6 q7 q8 q9 q10 q11 q12 lG
  have r0:=D4.cell 0
  have t0:=D4.frozen 0
  have r1:=D4.cell 1
  have t1:=D4.frozen 1
  have r2:=D4.cell 2
  have t2:=D4.frozen 2
  have r3:=D4.cell 3
  have t3:=D4.frozen 3
  have r4:=D4.cell 4
  have t4:=D4.frozen 4
  have r5:=D4.cell 5
  have t5:=D4.frozen 5
  have r6:=D4.cell 6
  have t6:=D4.frozen 6
  have r7:=D4.cell 7
  have t7:=D4.frozen 7
  have r8:=D4.cell 8
  have t8:=D4.frozen 8
  have r9:=D4.cell 9
  have t9:=D4.frozen 9
  have r10:=D4.cell 10
  have t10:=D4.frozen 10
  have r11:=D4.cell 11
  have t11:=D4.frozen 11
  have r12:=D4.cell 12
  have t12:=D4.frozen 12
  simp at r0 r1 r2 r3 r4 r5 r6 r7 r8 r9 r10 r11 r12
  have lD:=D4.lt
  go_wp2_with fail
  refine bodyPost_ret (zCm rfl rfl (zCG (zB3 D4) rfl) rfl rfl) rfl ⟨.inl ⟨H0.out,A',ae,ce,rfl,?_,?_⟩,?_⟩
  ·have kp:=zC8 lD (.int .i64 (zAV l).size) (.int .i64 (zAV l).words) (.slice A'.ak (zAV l).keys.length A'.ck) (.slice A'.ad (zAV l).days.length A'.cd) (.slice A'.al (zAV l).lost.length A'.cl) (.slice A'.as_ (zAV l).post.sends.length A'.cs) (.slice A'.ar (zAV l).post.routes.length A'.cr) (.int .i64 (zAV l).post.pat) (.slice A'.aj (zAV l).journal.length A'.cj) (.int .i64 7) (.int .i64 (zAV l).rate) (.int .i64 (zAV l).keeps) (.slice A'.aa (zAV l).ds.length A'.ca)
   exact hL4.shows (zAn kp.size fun j hj hn => by
    have hn2:j≠w.heap.size:=by simp at hn;omega
    refine ⟨by simp at hn;simp;omega,?_⟩
    have:=kp.below.block j hj
    rwa [zAG _ hn2,zAG _ hn2] at this)
  ·exact (own.keepG (by have:=D2.lt;omega) (zC8 lD _ _ _ _ _ _ _ _ _ _ _ _ _)).ints59
  ·exact b4.trans ((zC8 lD _ _ _ _ _ _ _ _ _ _ _ _ _).under (Nat.le_refl _))
 ·rw [h0]
  have H0:=Lib.hid h0
  clear h0
  have r0:=D2.cell 0
  have t0:=D2.frozen 0
  have r1:=D2.cell 1
  have t1:=D2.frozen 1
  have r2:=D2.cell 2
  have t2:=D2.frozen 2
  have r3:=D2.cell 3
  have t3:=D2.frozen 3
  have r4:=D2.cell 4
  have t4:=D2.frozen 4
  have r5:=D2.cell 5
  have t5:=D2.frozen 5
  have r6:=D2.cell 6
  have t6:=D2.frozen 6
  have r7:=D2.cell 7
  have t7:=D2.frozen 7
  have r8:=D2.cell 8
  have t8:=D2.frozen 8
  have r9:=D2.cell 9
  have t9:=D2.frozen 9
  have r10:=D2.cell 10
  have t10:=D2.frozen 10
  have r11:=D2.cell 11
  have t11:=D2.frozen 11
  have r12:=D2.cell 12
  have t12:=D2.frozen 12
  simp at r0 r1 r2 r3 r4 r5 r6 r7 r8 r9 r10 r11 r12
  have lD:=D2.lt
  go_wp2_with fail
  exact bodyPost_ret (zCm rfl rfl (zCG (zB3 D2) rfl) rfl rfl) rfl ⟨.inr ⟨H0.out,rfl⟩,b2.trans ((zC8 lD _ _ _ _ _ _ _ _ _ _ _ _ _).under (Nat.le_refl _))⟩
end Go.Proofs.YticjeianiahppaaGreatDoor
