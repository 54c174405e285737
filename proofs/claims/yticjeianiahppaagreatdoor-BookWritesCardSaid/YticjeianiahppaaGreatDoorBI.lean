/- The session book: contracts of the program and of the laws' helpers, joined (Kk). -/
import Derived.Test.YticjeianiahppaaGreatDoorBG
import Derived.BigRegion
set_option linter.unusedVariables false
set_option linter.unusedSimpArgs false
set_option linter.unnecessarySimpa false
set_option maxRecDepth 100000
set_option maxHeartbeats 40000000
namespace Go.Proofs.YticjeianiahppaaGreatDoor
open Go.RowKit Go.Flow
variable {hd:Nat}
theorem zO8 (g:Nat) (S:BSt) (A:Adr) (an:Option Addr) (cn:Nat) (r k:Int) (w:World) (h:StAt hd w g S A) (F:Few S) (hn:IntsAt (mask hd g w) an [r,k]) :
  Calls Tryz.prog 250 #[.pointer (some ⟨g,0,none⟩),.slice an 2 cn] w (zBA hd g S .rate [r,k] w):=by
 have hg:=h.lt
 obtain ⟨bn,on,rfl,ln,n0⟩:=(hn.unmask hg h.old) 0 (by simp)
 obtain ⟨_,_,e_1,_,n1⟩:=(hn.unmask hg h.old) 1 (by simp)
 obtain ⟨rfl,rfl⟩:=zAe e_1
 simp at n0 n1
 have ln0:=ln
 have hw0:=KeepG.refl hg
 have p10:=h.cells.cell 10
 simp at p10
 have p11:=h.cells.cell 11
 simp at p11
 obtain ⟨E,hE⟩:∃ E,Pay.zEW ⟨7,r,k,[]⟩=E:=⟨_,rfl⟩
 have chk:=fun W => Pay.zFD 7 r k [] none 0 W (Pay.zDE.nil _ _) ⟨by simp,by simp⟩
 simp only [List.length_nil,hE] at chk
 go_enter Tryz.func250,Tryz.ntmps250
 go_upto_region 0 with fail
 (refine zAD 8 [] [8] 32 [true,true,true,true,true,true,true,false] [PtrV w.heap.size #[.int .i64 0,.int .i64 0,.int .i64 0,.slice none 0 0] 55] (by kernel_rfl) (by kernel_rfl) rfl (zAB (fun v w w' h hb => h.kept hb) zAR) ?_;simp only [zAU,List.filterMap_cons,List.filterMap_nil,zzH,zzI,zzJ];(repeat (refine zAM _ rfl (fun w => (by go_simp;rfl)) ?_));refine zAS ?_;simp only [zAF,zAt,Act.put,zzG,zzE,zzF,zzA,zzB,zzC,zzD];(repeat (refine zAL (fun K hK => ?_);go_simp;first | (refine hK _ ?_;clear hK K) | (apply Exists.intro;refine ⟨fun ex => ?_,hK _ ?_⟩;(fail);clear hK K)));refine zAQ ?_;simp only [zAT,under,zAZ,and_true,List.nil_append,List.cons_append])
 refine ⟨?_,?_⟩
 ·intro e
  go_simp
  exact ⟨(Below.refl _ _).alloc (Nat.le_refl _) _,e.to.heap.size,rfl,e.size,Cells.new _ _ _⟩
 intro e
 rintro v1 ⟨B1,rfl,lB1,CB1⟩
 simp only [Act.put,zzG,zzE,zzF]
 have heb:=e.below
 obtain ⟨V,hV⟩:∃ x:World,x=e.to:=⟨_,rfl⟩
 rw [← hV] at heb CB1 ⊢
 clear hV e
 have z0:=CB1.cell 0
 have y0:=CB1.frozen 0
 have z1:=CB1.cell 1
 have y1:=CB1.frozen 1
 have z2:=CB1.cell 2
 have y2:=CB1.frozen 2
 have z3:=CB1.cell 3
 have y3:=CB1.frozen 3
 have lz:=CB1.lt
 simp at z0 z1 z2 z3
 go_upto_region 1 with fail
 obtain ⟨w1,hV9⟩:∃ x:World,x=(((V.setCell ⟨B1,0,none⟩ (.int .i64 7)).setCell ⟨B1,1,none⟩ (.int .i64 r)).setCell ⟨B1,2,none⟩ (.int .i64 k)).setCell ⟨B1,3,none⟩ (.slice none 0 0):=⟨_,rfl⟩
 have hb9:Below w.heap.size w w1:=by rw [hV9];exact (((heb.setCell (p:=⟨B1,0,none⟩) lB1 _).setCell (p:=⟨B1,1,none⟩) lB1 _).setCell (p:=⟨B1,2,none⟩) lB1 _).setCell (p:=⟨B1,3,none⟩) lB1 _
 replace CB1:Cells w1 B1 #[.int .i64 7,.int .i64 r,.int .i64 k,.slice none 0 0] 55:=by rw [hV9];exact (((CB1.set 0 _).set 1 _).set 2 _).set 3 _
 rw [← hV9]
 clear hV9 z0 y0 z1 y1 z2 y2 z3 y3 lz heb
 have hw1:KeepG g w w1:=hw0.trans (KeepG.of h.lt hb9)
 replace n0:=zAA hb9 n0
 replace n1:=zAA hb9 n1
 replace ln:=Nat.lt_of_lt_of_le ln hb9.size
 replace h:=h.below hb9
 replace p10:=zAA hb9 p10
 replace p11:=zAA hb9 p11
 replace hg:=h.lt
 have u0:=CB1.cell 0
 have u1:=CB1.cell 1
 have u2:=CB1.cell 2
 have u3:=CB1.cell 3
 have lu:=CB1.lt
 simp at u0 u1 u2 u3
 go_wp2_with fail
 go_at_call 175
 refine (chk _).mono ?_
 rintro e w2 ⟨rfl,hb8⟩
 clear u0 u1 u2 u3 lu CB1 chk
 have hw2:KeepG g w w2:=hw1.trans (KeepG.of h.lt hb8)
 replace n0:=zAA hb8 n0
 replace n1:=zAA hb8 n1
 replace ln:=Nat.lt_of_lt_of_le ln hb8.size
 replace h:=h.below hb8
 replace p10:=zAA hb8 p10
 replace p11:=zAA hb8 p11
 replace hg:=h.lt
 go_wp2_with fail
 go_at_call 188
 obtain ⟨q2,hq2⟩:∃ q,(E == 0)=q:=⟨_,rfl⟩
 rw [hq2]
 cases q2
 ·refine (zAP 2 _).mono ?_
  rintro e _ ⟨rfl,rfl⟩
  exact ⟨rfl,.bad (zA1 (E:=2) (by simp at hq2;simp [errC,chain,hE,hq2]) (by decide)) (by decide) hw2 h.blk⟩
 refine (zA3 2 _).mono ?_
 rintro e _ ⟨rfl,rfl⟩
 replace hq2:E=0:=by simpa using hq2
 have pf1:=h.cells.frozen 10
 have pf2:=h.cells.frozen 11
 go_upto_region 2 with fail
 go_region
 have hs:=(h.put (S':={ S with rate:=r }) (A':=A) (k:=10) (v:=.int .i64 r) rfl { h.lists with }).put (S':=nxtC S .rate [r,k]) (A':=A) (k:=11) (v:=.int .i64 k) rfl (by rw [zEH];exact { h.lists with })
 exact bodyPost_end (results_none rfl _ _ _) rfl ⟨((hw2.set 10 _).set 11 _).drew,.inl ⟨zBy (by simp [errC,chain,hE,hq2]) rfl,rfl,⟨A,hs.drew⟩⟩⟩
theorem zOc (g:Nat) (S:BSt) (A:Adr) (an:Option Addr) (cn:Nat) (s wo:Int) (w:World) (h:StAt hd w g S A) (F:Few S) (hn:IntsAt (mask hd g w) an [s,wo]) :
  Calls Tryz.prog 237 #[.pointer (some ⟨g,0,none⟩),.slice an 2 cn] w (zBA hd g S .book [s,wo] w):=by
 have hg:=h.lt
 obtain ⟨bn,on,rfl,ln,n0⟩:=(hn.unmask hg h.old) 0 (by simp)
 obtain ⟨_,_,e_1,_,n1⟩:=(hn.unmask hg h.old) 1 (by simp)
 obtain ⟨rfl,rfl⟩:=zAe e_1
 simp at n0 n1
 have ln0:=ln
 have hw0:=KeepG.refl hg
 have p0:=h.cells.cell 0
 simp at p0
 have p1:=h.cells.cell 1
 simp at p1
 have p2:=h.cells.cell 2
 simp at p2
 have p3:=h.cells.cell 3
 simp at p3
 have p4:=h.cells.cell 4
 simp at p4
 obtain ⟨E,hE⟩:∃ E,Cph.zA7 s wo [(1,0,0)] [0]=E:=⟨_,rfl⟩
 have HE:=Lib.hid hE
 go_enter Tryz.func237,Tryz.ntmps237
 go_upto_region 0 with fail
 (refine zAD 11 [] [11] 45 [true,true,true,true,true,true,true,false,false,false,false] [LitV w.heap.size 1 #[.int .i64 1,.int .i64 0,.int .i64 0] 186,LitV w.heap.size 1 #[.int .i64 0] 3,BkV w.heap.size s wo 1 0 0,PtrV w.heap.size #[.int .i64 0,.int .i64 0,.slice none 0 0,.slice none 0 0] 124] (by kernel_rfl) (by kernel_rfl) rfl (zAB (fun v w w' h hb => h.kept hb) (zAB (fun v w w' h hb => h.kept hb) (zAB (fun v w w' h hb => h.kept hb) (zAB (fun v w w' h hb => h.kept hb) zAR)))) ?_;simp only [zAU,List.filterMap_cons,List.filterMap_nil,zzH,zzI,zzJ];(repeat (refine zAM _ rfl (fun w => (by go_simp;rfl)) ?_));refine zAS ?_;simp only [zAF,zAt,Act.put,zzG,zzE,zzF,zzA,zzB,zzC,zzD];(repeat (refine zAL (fun K hK => ?_);go_simp;first | (refine hK _ ?_;clear hK K) | (apply Exists.intro;refine ⟨fun ex => ?_,hK _ ?_⟩;(fail);clear hK K)));refine zAQ ?_;simp only [zAT,under,zAZ,and_true,List.nil_append,List.cons_append])
 refine ⟨⟨?_,?_,?_,?_⟩,?_⟩
 ·intro e
  go_simp
  exact ⟨(Below.refl _ _).alloc (Nat.le_refl _) _,e.to.heap.size,rfl,e.size,Cells.new _ _ _⟩
 ·intro e v1 h1
  go_simp
  exact ⟨(Below.refl _ _).alloc (Nat.le_refl _) _,e.to.heap.size,rfl,e.size,Cells.new _ _ _⟩
 ·intro e v1 h1 v2 h2
  obtain ⟨g1,rfl,l1,c1⟩:=h1 (by kernel_rfl)
  obtain ⟨g2,rfl,l2,c2⟩:=h2 (by kernel_rfl)
  go_simp
  exact ⟨Below.refl _ _,g1,g2,rfl,l1,l2,c1,c2⟩
 ·intro e v1 h1 v2 h2 v3 h3
  go_simp
  exact ⟨(Below.refl _ _).alloc (Nat.le_refl _) _,e.to.heap.size,rfl,e.size,Cells.new _ _ _⟩
 intro e
 rintro v1 - v2 - v3 ⟨g1,g2,rfl,l1,l2,c1,c2⟩ v4 ⟨B2,rfl,lB2,CB2⟩
 simp only [Act.put,zzG,zzE,zzF]
 have heb:=e.below
 obtain ⟨V,hV⟩:∃ x:World,x=e.to:=⟨_,rfl⟩
 rw [← hV] at heb CB2 c1 c2 ⊢
 clear hV e
 have z0:=CB2.cell 0
 have y0:=CB2.frozen 0
 have z1:=CB2.cell 1
 have y1:=CB2.frozen 1
 have z2:=CB2.cell 2
 have y2:=CB2.frozen 2
 have z3:=CB2.cell 3
 have y3:=CB2.frozen 3
 have lz:=CB2.lt
 simp at z0 z1 z2 z3
 have n_c1:g1≠B2:=zEV c1 CB2 (by decide)
 have n_c2:g2≠B2:=zEV c2 CB2 (by decide)
 go_upto_region 1 with fail
 obtain ⟨w1,hV9⟩:∃ x:World,x=(((V.setCell ⟨B2,0,none⟩ (.int .i64 s)).setCell ⟨B2,1,none⟩ (.int .i64 wo)).setCell ⟨B2,2,none⟩ (.slice (some ⟨g1,0,none⟩) 1 1)).setCell ⟨B2,3,none⟩ (.slice (some ⟨g2,0,none⟩) 1 1):=⟨_,rfl⟩
 have hb9:Below w.heap.size w w1:=by rw [hV9];exact (((heb.setCell (p:=⟨B2,0,none⟩) lB2 _).setCell (p:=⟨B2,1,none⟩) lB2 _).setCell (p:=⟨B2,2,none⟩) lB2 _).setCell (p:=⟨B2,3,none⟩) lB2 _
 replace CB2:Cells w1 B2 #[.int .i64 s,.int .i64 wo,.slice (some ⟨g1,0,none⟩) 1 1,.slice (some ⟨g2,0,none⟩) 1 1] 124:=by rw [hV9];exact (((CB2.set 0 _).set 1 _).set 2 _).set 3 _
 replace c1:Cells w1 g1 #[.int .i64 1,.int .i64 0,.int .i64 0] 186:=by rw [hV9];exact ((((c1.other n_c1 0 _).other n_c1 1 _).other n_c1 2 _).other n_c1 3 _)
 replace c2:Cells w1 g2 #[.int .i64 0] 3:=by rw [hV9];exact ((((c2.other n_c2 0 _).other n_c2 1 _).other n_c2 2 _).other n_c2 3 _)
 rw [← hV9]
 clear hV9 z0 y0 z1 y1 z2 y2 z3 y3 lz heb
 have hw1:KeepG g w w1:=hw0.trans (KeepG.of h.lt hb9)
 replace n0:=zAA hb9 n0
 replace n1:=zAA hb9 n1
 replace ln:=Nat.lt_of_lt_of_le ln hb9.size
 replace h:=h.below hb9
 replace p0:=zAA hb9 p0
 replace p1:=zAA hb9 p1
 replace p2:=zAA hb9 p2
 replace p3:=zAA hb9 p3
 replace p4:=zAA hb9 p4
 replace hg:=h.lt
 have u0:=CB2.cell 0
 have u1:=CB2.cell 1
 have u2:=CB2.cell 2
 have u3:=CB2.cell 3
 have lu:=CB2.lt
 simp at u0 u1 u2 u3
 go_wp2_with fail
 go_at_call 172
 refine (chk1 s wo 1 0 0 g1 g2 E _ HE c1 c2).mono ?_
 rintro e w2 ⟨rfl,hb8⟩
 clear u0 u1 u2 u3 lu CB2
 have hw2:KeepG g w w2:=hw1.trans (KeepG.of h.lt hb8)
 replace n0:=zAA hb8 n0
 replace n1:=zAA hb8 n1
 replace ln:=Nat.lt_of_lt_of_le ln hb8.size
 replace c1:=c1.below hb8
 replace c2:=c2.below hb8
 replace h:=h.below hb8
 replace p0:=zAA hb8 p0
 replace p1:=zAA hb8 p1
 replace p2:=zAA hb8 p2
 replace p3:=zAA hb8 p3
 replace p4:=zAA hb8 p4
 replace hg:=h.lt
 go_wp2_with fail
 go_at_call 188
 obtain ⟨q2,hq2⟩:∃ q,(E == 0)=q:=⟨_,rfl⟩
 rw [hq2]
 cases q2
 ·refine (zAP 2 _).mono ?_
  rintro e _ ⟨rfl,rfl⟩
  exact ⟨rfl,.bad (zA1 (E:=2) (by simp at hq2;simp [errC,chain,hE,hq2]) (by decide)) (by decide) hw2 h.blk⟩
 refine (zA3 2 _).mono ?_
 rintro e _ ⟨rfl,rfl⟩
 replace hq2:E=0:=by simpa using hq2
 have pf1:=h.cells.frozen 0
 have pf2:=h.cells.frozen 1
 go_upto_region 2 with fail
 go_region
 have hs:=(h.put (S':={ S with size:=s }) (A':=A) (k:=0) (v:=.int .i64 s) rfl { h.lists with }).put (S':={ S with size:=s,words:=wo }) (A':=A) (k:=1) (v:=.int .i64 wo) rfl (by rw [zEH];exact { h.lists with })
 replace hs:=hs.drew
 have hwx:=((hw2.set 0 (.int .i64 s)).set 1 (.int .i64 wo)).drew
 obtain ⟨X,hX⟩:∃ x:World,x=((w2.setCell ⟨g,0,none⟩ (.int .i64 s)).setCell ⟨g,1,none⟩ (.int .i64 wo)).drew:=⟨_,rfl⟩
 rw [← hX] at hs hwx ⊢
 clear hX
 have r2:=hs.cells.cell 2
 have r3:=hs.cells.cell 3
 have r4:=hs.cells.cell 4
 simp at r2 r3 r4
 have rf2:=hs.cells.frozen 2
 have rf3:=hs.cells.frozen 3
 have rf4:=hs.cells.frozen 4
 have lX:=hs.lt
 go_wp2
 have M:=hs.lists
 have h2:=hs.put (S':={ S with size:=s,words:=wo,keys:=[] }) (A':={ A with ak:=none,ck:=0 }) (k:=2) (v:=.slice none 0 0) rfl { M with keys:=zAI.nil _,nk:=fun _ => rfl }
 have h3:=h2.put (S':={ S with size:=s,words:=wo,keys:=[],days:=[] }) (A':={ A with ak:=none,ck:=0,ad:=none,cd:=0 }) (k:=3) (v:=.slice none 0 0) rfl { h2.lists with days:=zAI.nil _,nd:=fun _ => rfl }
 have h4:=h3.put (S':=nxtC S .book [s,wo]) (A':={ A with ak:=none,ck:=0,ad:=none,cd:=0,al:=none,cl:=0 }) (k:=4) (v:=.slice none 0 0) rfl { h3.lists with lost:=zAI.nil _,nl:=fun _ => rfl }
 exact bodyPost_end (results_none rfl _ _ _) rfl ⟨((hwx.set 2 _).set 3 _).set 4 _,.inl ⟨zBy (by simp [errC,chain,hE,hq2]) rfl,rfl,⟨_,h4⟩⟩⟩
def PdV (B:Nat) (p a b s:Int) (v:Value) (w:World):Prop:=∃ g1,v=.agg #[.int .i64 p,.int .i64 a,.int .i64 b,.slice (some ⟨g1,0,none⟩) 1 1]∧B≤g1∧Cells w g1 #[.int .i64 s] 3
theorem PdV.kept {B:Nat} {p a b s:Int} {v:Value} {w w' : World} (h:PdV B p a b s v w) (hb:Below w.heap.size w w'):PdV B p a b s v w':=let ⟨g1,h1,h2,h3⟩:=h;⟨g1,h1,h2,h3.below hb⟩
theorem dis1 {w:World} {g g1:Nat} {p a b s:Int} (h:Cells w g #[.int .i64 p,.int .i64 a,.int .i64 b,.slice (some ⟨g1,0,none⟩) 1 1] 192) (h1:Cells w g1 #[.int .i64 s] 3):Pay.zDE w (some ⟨g,0,none⟩) [⟨p,a,b,[s]⟩]:=fun k hk => by
 have hk0:k=0:=by simp at hk;exact hk
 subst hk0
 exact ⟨g,0,some ⟨g1,0,none⟩,1,rfl,h.lt,by rw [h.cell];rfl,by rw [h.cell];rfl,by rw [h.cell];rfl,by rw [h.cell];rfl,⟨int1 h1,by simp,by simp⟩⟩
theorem zO9 (g:Nat) (S:BSt) (A:Adr) (an:Option Addr) (cn:Nat) (p lo hi s:Int) (w:World) (h:StAt hd w g S A) (F:Few S) (hn:IntsAt (mask hd g w) an [p,lo,hi,s]) :
  Calls Tryz.prog 251 #[.pointer (some ⟨g,0,none⟩),.slice an 4 cn] w (zBA hd g S .paid [p,lo,hi,s] w):=by
 have hg:=h.lt
 have hold0:=h.old
 have hg00:=h.lt
 have f_ds:=F.ds
 obtain ⟨bn,on,rfl,ln,n0⟩:=(hn.unmask hg h.old) 0 (by simp)
 obtain ⟨_,_,e_1,_,n1⟩:=(hn.unmask hg h.old) 1 (by simp)
 obtain ⟨rfl,rfl⟩:=zAe e_1
 obtain ⟨_,_,e_2,_,n2⟩:=(hn.unmask hg h.old) 2 (by simp)
 obtain ⟨rfl,rfl⟩:=zAe e_2
 obtain ⟨_,_,e_3,_,n3⟩:=(hn.unmask hg h.old) 3 (by simp)
 obtain ⟨rfl,rfl⟩:=zAe e_3
 simp at n0 n1 n2 n3
 have ln0:=ln
 have hw0:=KeepG.refl hg
 have p12:=h.cells.cell 12
 simp at p12
 obtain ⟨E,hE⟩:∃ E,Pay.zEW ⟨7,0,0,[⟨p,lo,hi,[s]⟩]⟩=E:=⟨_,rfl⟩
 go_enter Tryz.func251,Tryz.ntmps251
 go_upto_region 0 with fail
 (refine zAD 16 [] [16] 48 [true,true,true,true,true,true,true,true,true,true,true,true,true,false,false,false] [LitV w.heap.size 1 #[.int .i64 s] 3,PdV w.heap.size p lo hi s,PtrV w.heap.size #[.int .i64 0,.int .i64 0,.int .i64 0,.slice none 0 0] 192] (by kernel_rfl) (by kernel_rfl) rfl (zAB (fun v w w' h hb => h.kept hb) (zAB (fun v w w' h hb => h.kept hb) (zAB (fun v w w' h hb => h.kept hb) zAR))) ?_;simp only [zAU,List.filterMap_cons,List.filterMap_nil,zzH,zzI,zzJ];(repeat (refine zAM _ rfl (fun w => (by go_simp;rfl)) ?_));refine zAS ?_;simp only [zAF,zAt,Act.put,zzG,zzE,zzF,zzA,zzB,zzC,zzD];(repeat (refine zAL (fun K hK => ?_);go_simp;first | (refine hK _ ?_;clear hK K) | (apply Exists.intro;refine ⟨fun ex => ?_,hK _ ?_⟩;(fail);clear hK K)));refine zAQ ?_;simp only [zAT,under,zAZ,and_true,List.nil_append,List.cons_append])
 refine ⟨⟨?_,?_,?_⟩,?_⟩
 ·intro e
  go_simp
  exact ⟨(Below.refl _ _).alloc (Nat.le_refl _) _,e.to.heap.size,rfl,e.size,Cells.new _ _ _⟩
 ·intro e v1 h1
  obtain ⟨g1,rfl,l1,c1⟩:=h1 (by kernel_rfl)
  go_simp
  exact ⟨Below.refl _ _,g1,rfl,l1,c1⟩
 ·intro e v1 h1 v2 h2
  go_simp
  exact ⟨(Below.refl _ _).alloc (Nat.le_refl _) _,e.to.heap.size,rfl,e.size,Cells.new _ _ _⟩
 intro e
 rintro v1 - v2 ⟨g1,rfl,l1,c1⟩ v3 ⟨B2,rfl,lB2,CB2⟩
 simp only [Act.put,zzG,zzE,zzF]
 have heb:=e.below
 obtain ⟨V,hV⟩:∃ x:World,x=e.to:=⟨_,rfl⟩
 rw [← hV] at heb CB2 c1 ⊢
 clear hV e
 have z0:=CB2.cell 0
 have y0:=CB2.frozen 0
 have z1:=CB2.cell 1
 have y1:=CB2.frozen 1
 have z2:=CB2.cell 2
 have y2:=CB2.frozen 2
 have z3:=CB2.cell 3
 have y3:=CB2.frozen 3
 have lz:=CB2.lt
 simp at z0 z1 z2 z3
 have n_c1:g1≠B2:=zEV c1 CB2 (by decide)
 go_upto_region 1 with fail
 obtain ⟨w1,hV9⟩:∃ x:World,x=(((V.setCell ⟨B2,0,none⟩ (.int .i64 p)).setCell ⟨B2,1,none⟩ (.int .i64 lo)).setCell ⟨B2,2,none⟩ (.int .i64 hi)).setCell ⟨B2,3,none⟩ (.slice (some ⟨g1,0,none⟩) 1 1):=⟨_,rfl⟩
 have hb9:Below w.heap.size w w1:=by rw [hV9];exact (((heb.setCell (p:=⟨B2,0,none⟩) lB2 _).setCell (p:=⟨B2,1,none⟩) lB2 _).setCell (p:=⟨B2,2,none⟩) lB2 _).setCell (p:=⟨B2,3,none⟩) lB2 _
 replace CB2:Cells w1 B2 #[.int .i64 p,.int .i64 lo,.int .i64 hi,.slice (some ⟨g1,0,none⟩) 1 1] 192:=by rw [hV9];exact (((CB2.set 0 _).set 1 _).set 2 _).set 3 _
 replace c1:Cells w1 g1 #[.int .i64 s] 3:=by rw [hV9];exact ((((c1.other n_c1 0 _).other n_c1 1 _).other n_c1 2 _).other n_c1 3 _)
 rw [← hV9]
 clear hV9 z0 y0 z1 y1 z2 y2 z3 y3 lz heb
 have hw1:KeepG g w w1:=hw0.trans (KeepG.of h.lt hb9)
 replace n0:=zAA hb9 n0
 replace n1:=zAA hb9 n1
 replace n2:=zAA hb9 n2
 replace n3:=zAA hb9 n3
 replace ln:=Nat.lt_of_lt_of_le ln hb9.size
 replace h:=h.below hb9
 replace p12:=zAA hb9 p12
 replace hg:=h.lt
 have u0:=CB2.cell 0
 have u1:=CB2.cell 1
 have u2:=CB2.cell 2
 have u3:=CB2.cell 3
 have lu:=CB2.lt
 simp at u0 u1 u2 u3
 obtain ⟨Y,hY⟩:∃ x:World,x=w1.alloc (.cells #[.int .i64 p,.int .i64 lo,.int .i64 hi,.slice (some ⟨g1,0,none⟩) 1 1] 192):=⟨_,rfl⟩
 have bY:Below w1.heap.size w1 Y:=by rw [hY];exact (Below.refl _ _).alloc (Nat.le_refl _) _
 have cY:Cells Y w1.heap.size #[.int .i64 p,.int .i64 lo,.int .i64 hi,.slice (some ⟨g1,0,none⟩) 1 1] 192:=by rw [hY];exact Cells.new _ _ _
 have chk:=Pay.zFD 7 0 0 [⟨p,lo,hi,[s]⟩] (some ⟨w1.heap.size,0,none⟩) 1 Y (dis1 cY (c1.below bY)) ⟨by simp,by simp⟩
 simp only [List.length_singleton,hE] at chk
 go_wp2_with fail
 rw [← hY]
 go_at_call 175
 refine chk.mono ?_
 rintro e w2 ⟨rfl,hb8⟩
 clear chk
 replace hb8:=bY.trans (hb8.mono bY.size)
 clear hY cY bY
 have hw2:KeepG g w w2:=hw1.trans (KeepG.of h.lt hb8)
 replace n0:=zAA hb8 n0
 replace n1:=zAA hb8 n1
 replace n2:=zAA hb8 n2
 replace n3:=zAA hb8 n3
 replace ln:=Nat.lt_of_lt_of_le ln hb8.size
 replace c1:=c1.below hb8
 replace CB2:=CB2.below hb8
 replace u0:=zAA hb8 u0
 replace u1:=zAA hb8 u1
 replace u2:=zAA hb8 u2
 replace u3:=zAA hb8 u3
 replace lu:=Nat.lt_of_lt_of_le lu hb8.size
 replace h:=h.below hb8
 replace p12:=zAA hb8 p12
 replace hg:=h.lt
 go_wp2_with fail
 go_at_call 188
 obtain ⟨q2,hq2⟩:∃ q,(E == 0)=q:=⟨_,rfl⟩
 rw [hq2]
 cases q2
 ·refine (zAP 2 _).mono ?_
  rintro e _ ⟨rfl,rfl⟩
  exact ⟨rfl,.bad (zA1 (E:=2) (by simp at hq2;simp [errC,chain,hE,hq2]) (by decide)) (by decide) hw2 h.blk⟩
 refine (zA3 2 _).mono ?_
 rintro e _ ⟨rfl,rfl⟩
 replace hq2:E=0:=by simpa using hq2
 go_wp2_with fail
 go_at_call 188
 obtain ⟨q3,hq3⟩:∃ q,(decide ((S.ds.length:Int) < 6))=q:=⟨_,rfl⟩
 rw [hq3]
 cases q3
 ·refine (zAP 3 _).mono ?_
  rintro e _ ⟨rfl,rfl⟩
  exact ⟨rfl,.bad (zA1 (E:=3) (by simp at hq3;simp [errC,chain,hE,hq2];omega) (by decide)) (by decide) hw2 h.blk⟩
 refine (zA3 3 _).mono ?_
 rintro e _ ⟨rfl,rfl⟩
 replace hq3:(S.ds.length:Int) < 6:=by simpa using hq3
 obtain ⟨vs,rv,sv⟩:=h.lists.ds
 have lv:=rv.1
 have ov:=rv.one oneD (by omega)
 replace sv:=zAh h.lt h.old sv
 have nv:A.aa=none→S.ds.length=0∧A.ca=0:=fun e => ⟨by have q:=h.lists.ds;rw [e] at q;rw [q.none (by omega)];rfl,h.lists.na e⟩
 go_upto_region 3 with fail
 (refine zAD 13 [] [13] 48 [true,true,true,true,true,true,true,true,false,true,true,true,true] [OwnV 192 4 w2.heap.size (S.ds.length + 1) (vs ++ [.int .i64 p,.int .i64 lo,.int .i64 hi,.slice (some ⟨g1,0,none⟩) 1 1])] (by kernel_rfl) (by kernel_rfl) rfl (zAB (fun v w w' h hb => h.kept hb) zAR) ?_;simp only [zAU,List.filterMap_cons,List.filterMap_nil,zzH,zzI,zzJ];(repeat (refine zAM _ rfl (fun w => (by go_simp;rfl)) ?_));refine zAS ?_;simp only [zAF,zAt,Act.put,zzG,zzE,zzF,zzA,zzB,zzC,zzD];(repeat (refine zAL (fun K hK => ?_);go_simp;first | (refine hK _ ?_;clear hK K) | (apply Exists.intro;refine ⟨fun ex => ?_,hK _ ?_⟩;(fail);clear hK K)));refine zAQ ?_;simp only [zAT,under,zAZ,and_true,List.nil_append,List.cons_append])
 refine ⟨fun e => ?_,fun e => ?_⟩
 ·go_simp
  refine (zPP A.aa S.ds.length A.ca vs e.to (zAO sv e.below) lv nv ov (by omega) p lo hi (some ⟨g1,0,none⟩) 1 1).mono ?_
  rintro _ _ ⟨⟨a',c',rfl,o⟩,b⟩
  exact ⟨b,a',c',rfl,o.base_le e.size⟩
 rintro v1 ⟨a7,c7,rfl,o7⟩
 simp only [Act.put,zzG,zzE,zzF]
 have heb:=e.below
 obtain ⟨w3,hV2⟩:∃ x:World,x=e.to:=⟨_,rfl⟩
 rw [← hV2] at heb o7 ⊢
 clear hV2 e
 have rv':=zAY.below zHa rv (by rw [zAJ];exact zA0 h.lt h.old heb)
 have hgb:g < w2.heap.size:=h.lt
 have hgbh:hd < w2.heap.size:=h.old
 have hw3:KeepG g w w3:=hw2.trans (KeepG.of h.lt heb)
 replace n0:=zAA heb n0
 replace n1:=zAA heb n1
 replace n2:=zAA heb n2
 replace n3:=zAA heb n3
 replace ln:=Nat.lt_of_lt_of_le ln heb.size
 replace c1:=c1.below heb
 replace CB2:=CB2.below heb
 replace u0:=zAA heb u0
 replace u1:=zAA heb u1
 replace u2:=zAA heb u2
 replace u3:=zAA heb u3
 replace lu:=Nat.lt_of_lt_of_le lu heb.size
 replace h:=h.below heb
 replace p12:=zAA heb p12
 replace hg:=h.lt
 have pf:=h.cells.frozen 12
 go_wp2
 refine bodyPost_end (results_none rfl _ _ _) rfl ⟨hw3.set 12 _,.inl ⟨zBy (by simp [errC,chain,hE,hq2];omega) rfl,rfl,⟨{ A with aa:=a7,ca:=c7 },h.put (by simp [nxtC]) ?_⟩⟩⟩
 have L:=h.lists
 exact { L with ds:=zAI.own (o7.mask hgb hgbh) (rv'.snoc ⟨_,_,rfl,int1 (zG6 (by omega) (by omega) c1),by simp,fun e => by cases e⟩ rfl),na:=fun e => by subst e;exact zBY o7 }
end Go.Proofs.YticjeianiahppaaGreatDoor
