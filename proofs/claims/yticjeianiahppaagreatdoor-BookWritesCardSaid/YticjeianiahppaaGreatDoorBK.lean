/- The session book: contracts of the program and of the laws' helpers, joined (Kp). -/
import Derived.Test.YticjeianiahppaaGreatDoorBJ
set_option linter.unusedVariables false
set_option linter.unusedSimpArgs false
set_option linter.unnecessarySimpa false
set_option maxRecDepth 100000
set_option maxHeartbeats 40000000
namespace Go.Proofs.YticjeianiahppaaGreatDoor
open Go.RowKit Go.Flow
variable {hd:Nat}
theorem take3 {vs:List Value} {k size j:Nat} {cs:List Value} (h:(vs.drop (k * size)).take size=cs) (hj:j < size) {u:Value} (hu:cs[j]?=some u):vs[k * size + j]?=some u:=by
 rw [← h,zAv hj] at hu;exact hu
theorem zNS (g:Nat) (S:BSt) (A:Adr) (an:Option Addr) (cn:Nat) (rt lt lo hi_:Int) (w:World) (h:StAt hd w g S A) (F:Few S) (hn:IntsAt (mask hd g w) an [rt,lt,lo,hi_]) :
  Calls Tryz.prog 245 #[.pointer (some ⟨g,0,none⟩),.slice an 4 cn] w (zBA hd g S .sleep [rt,lt,lo,hi_] w):=by
 have hg:=h.lt
 have f_routes:=F.routes
 obtain ⟨bn,on,rfl,ln,n0⟩:=(hn.unmask hg h.old) 0 (by simp)
 obtain ⟨_,_,e_1,_,n1⟩:=(hn.unmask hg h.old) 1 (by simp)
 obtain ⟨rfl,rfl⟩:=zAe e_1
 obtain ⟨_,_,e_2,_,n2⟩:=(hn.unmask hg h.old) 2 (by simp)
 obtain ⟨rfl,rfl⟩:=zAe e_2
 obtain ⟨_,_,e_3,_,n3⟩:=(hn.unmask hg h.old) 3 (by simp)
 obtain ⟨rfl,rfl⟩:=zAe e_3
 simp at n0 n1 n2 n3
 have ln0:=ln
 have hw0:=KeepG.refl hg
 have p6:=h.cells.cell 6
 simp at p6
 obtain ⟨r1,hr1⟩:∃ r,idxB rt S.post.routes.length=r:=⟨_,rfl⟩
 have Hr1:Hid ((decide (0≤rt) && decide (rt≤((S.post.routes.length:Int) - 1)))=r1):=Lib.hid hr1
 have iw_r:IntKind.i64.wrap ((S.post.routes.length:Int) - 1)=(S.post.routes.length:Int) - 1:=IntWalk.i64_in _ (by omega)
 cases r1
 ·skip
  go_enter Tryz.func245,Tryz.ntmps245
  go_upto_region 0 with fail
  (refine zAC 32 (by kernel_rfl) (by kernel_rfl) ?_;simp only [zzA,zzB,zzC,zzD];(repeat (go_big_quiet_step (((go_at_call 181;refine zAH (zA6 rt 0 _ false Hr1 _))))));refine wpQuiet_nil ?_;rintro _ ⟨ex,rfl⟩;have hex:=ex.below;have hexz:=ex.size;(try simp at hexz);(try (have hy0:w.heap.size < ex.to.heap.size:=by omega));(try (have hy1:w.heap.size + 1 < ex.to.heap.size:=by omega));(try (have hy2:w.heap.size + 2 < ex.to.heap.size:=by omega)))
  obtain ⟨w1,hX⟩:∃ x:World,x=ex.to:=⟨_,rfl⟩
  rw [← hX] at hex ⊢
  clear hX hexz
  have hw1:KeepG g w w1:=hw0.trans (KeepG.of h.lt hex)
  replace n0:=zAA hex n0
  replace n1:=zAA hex n1
  replace n2:=zAA hex n2
  replace n3:=zAA hex n3
  replace ln:=Nat.lt_of_lt_of_le ln hex.size
  replace h:=h.below hex
  replace p6:=zAA hex p6
  replace hg:=h.lt
  clear hex
  go_wp2_with fail
  go_at_call 188
  refine (zAP 7 _).mono ?_
  rintro e _ ⟨rfl,rfl⟩
  exact ⟨rfl,.bad (zA1 (E:=7) (by simp [errC,chain,hr1]) (by decide)) (by decide) hw1 h.blk⟩
 have hr0:=hr1
 simp only [idxB,Bool.and_eq_true,decide_eq_true_eq] at hr0
 obtain ⟨i,rfl⟩:∃ i:Nat,rt=i:=⟨rt.toNat,by omega⟩
 have hi:i < S.post.routes.length:=by omega
 have hiI:(i:Int) < (S.post.routes.length:Int):=by omega
 have hi0:(0:Int)≤(i:Int):=by omega
 clear hr0
 obtain ⟨ls,hls⟩:∃ ls,S.post.routes[i].legs=ls:=⟨_,rfl⟩
 have hlo:zCQ S (i:Int)=ls:=by rw [zIA hi,hls]
 have HL:=Lib.hid hls
 have fls:ls.length≤3:=by rw [← hls];exact F.legs _ (List.getElem_mem hi)
 obtain ⟨br,orr,al,cl,har,lbr,cr0,hlg,nlg⟩:=zGZ h hi
 rw [HL.out] at cr0 hlg
 rw [har] at p6
 have Har:=Lib.hid har
 clear har
 obtain ⟨r2,hr2⟩:∃ r,idxB lt ls.length=r:=⟨_,rfl⟩
 have Hr2:Hid ((decide (0≤lt) && decide (lt≤((ls.length:Int) - 1)))=r2):=Lib.hid hr2
 have iw_l:IntKind.i64.wrap ((ls.length:Int) - 1)=(ls.length:Int) - 1:=IntWalk.i64_in _ (by omega)
 have EC0:Hid (errC S .sleep [(i:Int),lt,lo,hi_]=chain [(r2,7),(zCJ lo hi_ 30,2),(decide ((zIY S (i:Int) lt).length < 2),3)]):=Lib.hid (by show chain [(idxB (i:Int) S.post.routes.length && idxB lt (zCQ S (i:Int)).length,7),(zCJ lo hi_ 30,2),(decide ((zIY S (i:Int) lt).length < 2),3)]=_;rw [hr1,hlo,hr2];rfl)
 have HO:=Lib.hid hlo
 clear hls hlo
 cases r2
 ·skip
  go_enter Tryz.func245,Tryz.ntmps245
  go_upto_region 0 with fail
  (refine zAC 32 (by kernel_rfl) (by kernel_rfl) ?_;simp only [zzA,zzB,zzC,zzD];(repeat (go_big_quiet_step (((go_at_call 181;first | (with_reducible refine zAH (zA6 (i:Int) 0 _ true Hr1 _)) | (with_reducible refine zAH (zA6 lt 0 _ false Hr2 _)))))));refine wpQuiet_nil ?_;rintro _ ⟨ex,rfl⟩;have hex:=ex.below;have hexz:=ex.size;(try simp at hexz);(try (have hy0:w.heap.size < ex.to.heap.size:=by omega));(try (have hy1:w.heap.size + 1 < ex.to.heap.size:=by omega));(try (have hy2:w.heap.size + 2 < ex.to.heap.size:=by omega)))
  obtain ⟨w1,hX⟩:∃ x:World,x=ex.to:=⟨_,rfl⟩
  rw [← hX] at hex ⊢
  clear hX hexz
  have hw1:KeepG g w w1:=hw0.trans (KeepG.of h.lt hex)
  replace n0:=zAA hex n0
  replace n1:=zAA hex n1
  replace n2:=zAA hex n2
  replace n3:=zAA hex n3
  replace ln:=Nat.lt_of_lt_of_le ln hex.size
  replace cr0:=zAA hex cr0
  replace lbr:=Nat.lt_of_lt_of_le lbr hex.size
  replace hlg:=hlg.below zCx (by rw [zAJ];exact zA0 h.lt h.old hex)
  replace h:=h.below hex
  replace p6:=zAA hex p6
  replace hg:=h.lt
  clear hex
  go_wp2_with fail
  go_at_call 188
  refine (zAP 7 _).mono ?_
  rintro e _ ⟨rfl,rfl⟩
  exact ⟨rfl,.bad (zA1 (E:=7) (by rw [EC0.out];rfl) (by decide)) (by decide) hw1 h.blk⟩
 have hr0:=hr2
 simp only [idxB,Bool.and_eq_true,decide_eq_true_eq] at hr0
 obtain ⟨j,rfl⟩:∃ j:Nat,lt=j:=⟨lt.toNat,by omega⟩
 have hj:j < ls.length:=by omega
 have hjI:(j:Int) < (ls.length:Int):=by omega
 have hj0:(0:Int)≤(j:Int):=by omega
 clear hr0
 obtain ⟨asl,hasl⟩:∃ asl,ls[j].asl=asl:=⟨_,rfl⟩
 have hao:zIY S (i:Int) (j:Int)=asl:=by rw [zIY,HO.out,Int.toNat_natCast,List.getElem?_eq_getElem hj];exact hasl
 have HA:=Lib.hid hasl
 have fas:asl.length≤2:=by rw [← hasl];exact F.asl _ (List.getElem_mem hi) _ (by rw [HL.out];exact List.getElem_mem hj)
 have EC:Hid (errC S .sleep [(i:Int),(j:Int),lo,hi_]=chain [(true,7),(zCJ lo hi_ 30,2),(decide (asl.length < 2),3)]):=Lib.hid (by rw [EC0.out,hao])
 clear hasl hao EC0
 by_cases hsp:zCJ lo hi_ 30=true
 rotate_left
 ·replace hsp:zCJ lo hi_ 30=false:=by simpa using hsp
  go_enter Tryz.func245,Tryz.ntmps245
  go_upto_region 0 with fail
  (refine zAC 32 (by kernel_rfl) (by kernel_rfl) ?_;simp only [zzA,zzB,zzC,zzD];(repeat (go_big_quiet_step (((go_at_call 181;first | (with_reducible refine zAH (zA6 (i:Int) 0 _ true Hr1 _)) | (with_reducible refine zAH (zA6 (j:Int) 0 _ true Hr2 _)))))));refine wpQuiet_nil ?_;rintro _ ⟨ex,rfl⟩;have hex:=ex.below;have hexz:=ex.size;(try simp at hexz);(try (have hy0:w.heap.size < ex.to.heap.size:=by omega));(try (have hy1:w.heap.size + 1 < ex.to.heap.size:=by omega));(try (have hy2:w.heap.size + 2 < ex.to.heap.size:=by omega)))
  obtain ⟨w1,hX⟩:∃ x:World,x=ex.to:=⟨_,rfl⟩
  rw [← hX] at hex ⊢
  clear hX hexz
  have hw1:KeepG g w w1:=hw0.trans (KeepG.of h.lt hex)
  replace n0:=zAA hex n0
  replace n1:=zAA hex n1
  replace n2:=zAA hex n2
  replace n3:=zAA hex n3
  replace ln:=Nat.lt_of_lt_of_le ln hex.size
  replace cr0:=zAA hex cr0
  replace lbr:=Nat.lt_of_lt_of_le lbr hex.size
  replace hlg:=hlg.below zCx (by rw [zAJ];exact zA0 h.lt h.old hex)
  replace h:=h.below hex
  replace p6:=zAA hex p6
  replace hg:=h.lt
  clear hex
  go_wp2_with fail
  go_at_call 188
  refine (zA3 7 _).mono ?_
  rintro e _ ⟨rfl,rfl⟩
  go_upto_region 1 with fail
  go_region_dies
  all_goals
   go_at_call 295
   refine (zGn lo hi_ 30 hsp _).mono ?_
   rintro e w9 ⟨rfl,hb9⟩
   have hbb:Below w1.heap.size w1 w9:=by exact zzL
   exact ⟨rfl,.bad (zA1 (E:=2) (by rw [EC.out,hsp];rfl) (by decide)) (by decide) (hw1.trans (KeepG.of h.lt hbb)) (h.below hbb).blk⟩
 go_enter Tryz.func245,Tryz.ntmps245
 go_upto_region 0 with fail
 (refine zAC 32 (by kernel_rfl) (by kernel_rfl) ?_;simp only [zzA,zzB,zzC,zzD];(repeat (go_big_quiet_step (((go_at_call 181;first | (with_reducible refine zAH (zA6 (i:Int) 0 _ true Hr1 _)) | (with_reducible refine zAH (zA6 (j:Int) 0 _ true Hr2 _)))))));refine wpQuiet_nil ?_;rintro _ ⟨ex,rfl⟩;have hex:=ex.below;have hexz:=ex.size;(try simp at hexz);(try (have hy0:w.heap.size < ex.to.heap.size:=by omega));(try (have hy1:w.heap.size + 1 < ex.to.heap.size:=by omega));(try (have hy2:w.heap.size + 2 < ex.to.heap.size:=by omega)))
 obtain ⟨w1,hX⟩:∃ x:World,x=ex.to:=⟨_,rfl⟩
 rw [← hX] at hex ⊢
 clear hX hexz
 have hw1:KeepG g w w1:=hw0.trans (KeepG.of h.lt hex)
 replace n0:=zAA hex n0
 replace n1:=zAA hex n1
 replace n2:=zAA hex n2
 replace n3:=zAA hex n3
 replace ln:=Nat.lt_of_lt_of_le ln hex.size
 replace cr0:=zAA hex cr0
 replace lbr:=Nat.lt_of_lt_of_le lbr hex.size
 replace hlg:=hlg.below zCx (by rw [zAJ];exact zA0 h.lt h.old hex)
 replace h:=h.below hex
 replace p6:=zAA hex p6
 replace hg:=h.lt
 clear hex
 go_wp2_with fail
 go_at_call 188
 refine (zA3 7 _).mono ?_
 rintro e _ ⟨rfl,rfl⟩
 go_upto_region 1 with fail
 (refine zAD 8 [] [8] 87 [true,true,true,true,true,true,true,false] [PtrV w1.heap.size #[.int .i64 0,.int .i64 0] 70] (by kernel_rfl) (by kernel_rfl) rfl (zAB (fun v w w' h hb => h.kept hb) zAR) ?_;simp only [zAU,List.filterMap_cons,List.filterMap_nil,zzH,zzI,zzJ];(repeat (refine zAM _ rfl (fun w => (by go_simp;rfl)) ?_));refine zAS ?_;simp only [zAF,zAt,Act.put,zzG,zzE,zzF,zzA,zzB,zzC,zzD];(repeat (refine zAL (fun K hK => ?_);go_simp;first | (refine hK _ ?_;clear hK K) | (apply Exists.intro;refine ⟨fun ex => ?_,hK _ ?_⟩;((go_at_call 295;exact zId lo hi_ 30 hsp _));clear hK K)));refine zAQ ?_;simp only [zAT,under,zAZ,and_true,List.nil_append,List.cons_append])
 refine ⟨?_,?_⟩
 ·intro e
  go_simp
  exact ⟨(Below.refl _ _).alloc (Nat.le_refl _) _,e.to.heap.size,rfl,e.size,Cells.new _ _ _⟩
 intro e
 rintro v1 ⟨B1,rfl,lB1,CB1⟩
 simp only [Act.put,zzG,zzE,zzF]
 have heb:=e.below
 obtain ⟨V,hV⟩:∃ x:World,x=e.to:=⟨_,rfl⟩
 rw [← hV] at heb CB1 ⊢
 clear hV e
 have z0:=CB1.cell 0
 have y0:=CB1.frozen 0
 have z1:=CB1.cell 1
 have y1:=CB1.frozen 1
 have lz:=CB1.lt
 simp at z0 z1
 go_upto_region 2 with fail
 obtain ⟨w2,hV9⟩:∃ x:World,x=(V.setCell ⟨B1,0,none⟩ (.int .i64 lo)).setCell ⟨B1,1,none⟩ (.int .i64 hi_):=⟨_,rfl⟩
 have hb9:Below w1.heap.size w1 w2:=by rw [hV9];exact (heb.setCell (p:=⟨B1,0,none⟩) lB1 _).setCell (p:=⟨B1,1,none⟩) lB1 _
 replace CB1:Cells w2 B1 #[.int .i64 lo,.int .i64 hi_] 70:=by rw [hV9];exact (CB1.set 0 _).set 1 _
 rw [← hV9]
 clear hV9 z0 y0 z1 y1 lz heb
 have hw2:KeepG g w w2:=hw1.trans (KeepG.of h.lt hb9)
 replace n0:=zAA hb9 n0
 replace n1:=zAA hb9 n1
 replace n2:=zAA hb9 n2
 replace n3:=zAA hb9 n3
 replace ln:=Nat.lt_of_lt_of_le ln hb9.size
 replace cr0:=zAA hb9 cr0
 replace lbr:=Nat.lt_of_lt_of_le lbr hb9.size
 replace hlg:=hlg.below zCx (by rw [zAJ];exact zA0 h.lt h.old hb9)
 replace h:=h.below hb9
 replace p6:=zAA hb9 p6
 replace hg:=h.lt
 have nv:al=none→ls.length=0∧cl=0:=fun e => ⟨by have q:=hlg;rw [e] at q;rw [q.none (by omega)];rfl,nlg e⟩
 obtain ⟨vs,rv,sv⟩:=hlg
 have lv:=rv.1
 have ov:=rv.one oneL (by omega)
 replace sv:=zAh h.lt h.old sv
 have hA:=h
 go_upto_region 2 with fail
 (refine zAD 14 [] [] 87 [true,true,true,true,true,true,true,true,true,true,true,true,false,false] [OwnV 147 3 w2.heap.size ls.length vs,OwnV 147 3 w2.heap.size ls.length vs] (by kernel_rfl) (by kernel_rfl) rfl (zAB (fun v w w' h hb => h.kept hb) (zAB (fun v w w' h hb => h.kept hb) zAR)) ?_;simp only [zAU,List.filterMap_cons,List.filterMap_nil,zzH,zzI,zzJ];(repeat (refine zAM _ rfl (fun w => (by go_simp;rfl)) ?_));refine zAS ?_;simp only [zAF,zAt,Act.put,zzG,zzE,zzF,zzA,zzB,zzC,zzD];(repeat (refine zAL (fun K hK => ?_);go_simp;first | (refine hK _ ?_;clear hK K) | (apply Exists.intro;refine ⟨fun ex => ?_,hK _ ?_⟩;(fail);clear hK K)));refine zAQ ?_;simp only [zAT,under,zAZ,and_true,List.nil_append,List.cons_append])
 refine ⟨⟨?_,?_⟩,?_⟩
 ·intro e
  go_simp
  refine (zHP al ls.length cl vs e.to (zAO sv e.below) lv nv ov (by omega)).mono ?_
  rintro _ _ ⟨⟨a',c',rfl,o⟩,b⟩
  exact ⟨b,a',c',rfl,o.base_le e.size⟩
 ·intro e v1 h1
  go_simp
  exact ⟨Below.refl _ _,h1 (by kernel_rfl)⟩
 intro e
 rintro v1 - v2 ⟨a2,c2,rfl,oL⟩
 simp only [Act.put,zzG,zzE,zzF]
 have heb:=e.below
 obtain ⟨w3,hV2⟩:∃ x:World,x=e.to:=⟨_,rfl⟩
 rw [← hV2] at heb oL ⊢
 clear hV2 e
 obtain ⟨gl,rfl⟩:∃ gl,a2=some ⟨gl,0,none⟩:=by
  rcases oL.form with ⟨_,_,h,_⟩ | ⟨g,h,_⟩
  ·omega
  ·exact ⟨g,h⟩
 have rvL:=zAY.below zCx rv (by rw [zAJ];exact zA0 h.lt h.old heb)
 have kA:=KeepG.of hA.lt heb
 have hgb:g < w2.heap.size:=h.lt
 have hgbh:hd < w2.heap.size:=h.old
 obtain ⟨hcn,hcm,hgl,lgl⟩:=oL.capped
 have hw3:KeepG g w w3:=hw2.trans (KeepG.of h.lt heb)
 replace n0:=zAA heb n0
 replace n1:=zAA heb n1
 replace n2:=zAA heb n2
 replace n3:=zAA heb n3
 replace ln:=Nat.lt_of_lt_of_le ln heb.size
 replace cr0:=zAA heb cr0
 replace lbr:=Nat.lt_of_lt_of_le lbr heb.size
 replace CB1:=CB1.below heb
 replace h:=h.below heb
 replace p6:=zAA heb p6
 replace hg:=h.lt
 obtain ⟨ar,ca,ec,hra,nra⟩:=rvL.2 j hj
 rw [HA.out] at ec hra
 have gc:=oL.at_ (take3 ec (j:=2) (by omega) rfl)
 have gf:=(oL.room (j:=j * 3 + 2) (by omega)).2
 clear ec
 go_wp2_with fail
 go_at_call 188
 obtain ⟨q3,hq3⟩:∃ q,(decide ((asl.length:Int) < 2))=q:=⟨_,rfl⟩
 rw [hq3]
 cases q3
 ·refine (zAP 3 _).mono ?_
  rintro e _ ⟨rfl,rfl⟩
  exact ⟨rfl,.bad (zA1 (E:=3) (by simp at hq3;rw [EC.out,hsp];simp [chain];omega) (by decide)) (by decide) hw3 h.blk⟩
 refine (zA3 3 _).mono ?_
 rintro e _ ⟨rfl,rfl⟩
 replace hq3:(asl.length:Int) < 2:=by simpa using hq3
 have HZ:Hid (errC S .sleep [(i:Int),(j:Int),lo,hi_]=0):=Lib.hid (by rw [EC.out,hsp];simp [chain];omega)
 have x0:=CB1.cell 0
 have x1:=CB1.cell 1
 have lx:=CB1.lt
 simp at x0 x1
 have lgl3:=lgl
 obtain ⟨vs2,rv2,sv2⟩:=zNw hra
 have lv2:=rv2.1
 have ov2:=rv2.one oneP (by omega)
 replace sv2:=zAh h.lt h.old sv2
 have nv2:ar=none→asl.length=0∧ca=0:=fun e => ⟨by have q:=zNw hra;rw [e] at q;rw [q.none (by omega)];rfl,nra e⟩
 go_upto_region 5 with fail
 (refine zAD 9 [] [9] 87 [true,true,true,true,true,true,false,true,true] [OwnV 70 2 w3.heap.size (asl.length + 1) (vs2 ++ [.int .i64 lo,.int .i64 hi_])] (by kernel_rfl) (by kernel_rfl) rfl (zAB (fun v w w' h hb => h.kept hb) zAR) ?_;simp only [zAU,List.filterMap_cons,List.filterMap_nil,zzH,zzI,zzJ];(repeat (refine zAM _ rfl (fun w => (by go_simp;rfl)) ?_));refine zAS ?_;simp only [zAF,zAt,Act.put,zzG,zzE,zzF,zzA,zzB,zzC,zzD];(repeat (refine zAL (fun K hK => ?_);go_simp;first | (refine hK _ ?_;clear hK K) | (apply Exists.intro;refine ⟨fun ex => ?_,hK _ ?_⟩;(fail);clear hK K)));refine zAQ ?_;simp only [zAT,under,zAZ,and_true,List.nil_append,List.cons_append])
 refine ⟨fun e => ?_,fun e => ?_⟩
 ·go_simp
  refine (zML ar asl.length ca vs2 e.to (zAO sv2 e.below) lv2 nv2 ov2 (by omega) lo hi_).mono ?_
  rintro _ _ ⟨⟨a',c',rfl,o⟩,b⟩
  exact ⟨b,a',c',rfl,o.base_le e.size⟩
 rintro v1 ⟨a7,c7,rfl,o7⟩
 simp only [Act.put,zzG,zzE,zzF]
 have heb:=e.below
 obtain ⟨w4,hV2⟩:∃ x:World,x=e.to:=⟨_,rfl⟩
 rw [← hV2] at heb o7 ⊢
 clear hV2 e
 have rv2':=zAY.below zJ3 rv2 (by rw [zAJ];exact zA0 h.lt h.old heb)
 have rvL':=zAY.below zCx rvL (by rw [zAJ];exact zA0 h.lt h.old heb)
 have kA2:=kA.trans (KeepG.of h.lt heb)
 have hgb2:g < w3.heap.size:=h.lt
 have hgb2h:hd < w3.heap.size:=h.old
 have hw4:KeepG g w w4:=hw3.trans (KeepG.of h.lt heb)
 replace n0:=zAA heb n0
 replace n1:=zAA heb n1
 replace n2:=zAA heb n2
 replace n3:=zAA heb n3
 replace ln:=Nat.lt_of_lt_of_le ln heb.size
 replace cr0:=zAA heb cr0
 replace lbr:=Nat.lt_of_lt_of_le lbr heb.size
 replace CB1:=CB1.below heb
 replace gc:=zAA heb gc
 replace lgl:=Nat.lt_of_lt_of_le lgl heb.size
 replace oL:=oL.kept heb
 replace h:=h.below heb
 replace p6:=zAA heb p6
 replace hg:=h.lt
 have gf:=(oL.room (j:=j * 3 + 2) (by omega)).2
 go_upto_region 6 with fail
 have hne:g≠gl:=by omega
 obtain ⟨g7,rfl⟩:∃ g7,a7=some ⟨g7,0,none⟩:=by
  rcases o7.form with ⟨_,_,h,_⟩ | ⟨g,h,_⟩
  ·omega
  ·exact ⟨g,h⟩
 have hg7:=o7.capped.2.2.1
 obtain ⟨w5,hwn⟩:∃ x:World,x=w4.setCell ⟨gl,j * 3 + 2,none⟩ (.slice (some ⟨g7,0,none⟩) (asl.length + 1) c7):=⟨_,rfl⟩
 have hwA:=hw2.size
 have hw5:KeepG g w w5:=by rw [hwn];exact hw4.set_new (p:=⟨gl,_,none⟩) (Nat.le_trans hwA hgl) _
 have kA3:KeepG g w2 w5:=by rw [hwn];exact kA2.set_new (p:=⟨gl,_,none⟩) hgl _
 have oL2:OwnL 147 3 w2.heap.size w5 (some ⟨gl,0,none⟩) c2 ls.length (vs.set (j * 3 + 2) (.slice (some ⟨g7,0,none⟩) (asl.length + 1) c7)):=by rw [hwn];exact oL.setV (by omega) _
 have hs:StAt hd w5 g S A:=⟨by rw [hwn];exact h.cells.other hne _ _,hA.lists.below kA3.mh,Nat.lt_of_lt_of_le hA.old kA3.size⟩
 have o7' : OwnL 70 2 w3.heap.size w5 (some ⟨g7,0,none⟩) c7 (asl.length + 1) (vs2 ++ [.int .i64 lo,.int .i64 hi_]):=by rw [hwn];exact zDL o7 (show gl≠g7 by omega) _
 have hRa:zAI 2 RP (mask hd g w5) (some ⟨g7,0,none⟩) (asl ++ [(lo,hi_)]):=zAI.own (o7'.mask hgb2 hgb2h) (have r:=rv2'.snoc (x:=(lo,hi_)) (cs:=[.int .i64 lo,.int .i64 hi_]) rfl rfl;⟨r.1,r.2⟩)
 have rv5:=zAY.below zCx rv kA3.mh
 have rp:zAY 3 RL (mask hd g w5) (vs.set (j * 3 + 2) (.slice (some ⟨g7,0,none⟩) (asl.length + 1) c7)) (ls.modify j fun y => ⟨y.lo,y.hi,y.asl ++ [(lo,hi_)]⟩):=by
  refine rv5.put (by rw [List.length_set]) (fun q hq => by rw [List.getElem?_set_ne (by omega)]) fun hk => ?_
  obtain ⟨ar0,ca0,e0,_⟩:=rv5.2 j hk
  refine ⟨some ⟨g7,0,none⟩,c7,?_,by simp only [HA.out];exact hRa.atP,fun e => by cases e⟩
  rw [List.drop_set,if_neg (by omega),List.take_set,e0,show j * 3 + 2 - j * 3=2 by omega]
  simp [HA.out]
 have hl9:zAI 3 RL (mask hd g w5) (some ⟨gl,0,none⟩) (ls.modify j fun y => ⟨y.lo,y.hi,y.asl ++ [(lo,hi_)]⟩):=zAI.own (oL2.mask hgb hgbh) rp
 have nl9:(some ⟨gl,0,none⟩:Option Addr)=none→c2=0:=fun e => by cases e
 replace n0:w5.cell? ⟨bn,on,none⟩=some (.int .i64 (i:Int)):=by rw [hwn];exact (World.cell?_setCell_other _ ⟨gl,j * 3 + 2,none⟩ ⟨bn,on,none⟩ _ (by intro e;have:=congrArg Addr.block e;simp only at this;omega)).trans n0
 rw [← hwn]
 clear hwn rp rv5 hRa o7' oL2 oL o7 rv2' rvL' rv2 sv2 h gc gf cr0 CB1 p6
 have h:=hs
 have hg:=hs.lt
 have EZ:errC S .sleep [(i:Int),(j:Int),lo,hi_]=0:=HZ.out
 have Eq:nxtC S .sleep [(i:Int),(j:Int),lo,hi_]=zBN S i (ls.modify j fun y => ⟨y.lo,y.hi,y.asl ++ [(lo,hi_)]⟩):=by show { S with post:={ S.post with routes:=S.post.routes.modify i _ } }=zBN S i _;unfold zBN;rw [zHw hi (f':=fun x => ⟨ls.modify j fun y => ⟨y.lo,y.hi,y.asl ++ [(lo,hi_)]⟩,x.lossy⟩) (by simp only [HL.out];rfl)]
 have F' : Few (zBN S i (ls.modify j fun y => ⟨y.lo,y.hi,y.asl ++ [(lo,hi_)]⟩)):=Eq ▸ F.nxt _ _ EZ
 have lc:=zJj g S _ i (some ⟨gl,0,none⟩) c2 (ls.modify j fun y => ⟨y.lo,y.hi,y.asl ++ [(lo,hi_)]⟩) _ h F F' hi hl9 nl9
 rw [List.length_modify] at lc
 clear EZ
 go_wp2_with fail
 go_at_call 298
 refine lc.mono ?_
 rintro e w9 ⟨k9,⟨A9,s9⟩,he⟩
 have kx:=hw5.trans k9
 rw [← Eq] at s9 he
 by_cases hx:zBB (nxtC S .sleep [(i:Int),(j:Int),lo,hi_])=true
 ·rw [if_pos hx] at he
  subst he
  go_wp2
  exact bodyPost_end (results_none rfl _ _ _) rfl ⟨kx,.inl ⟨zEO HZ.out hx,rfl,_,s9⟩⟩
 ·rw [if_neg hx] at he
  subst he
  exact ⟨rfl,.bad (zFv HZ.out rfl hx) (by decide) kx s9.blk⟩
end Go.Proofs.YticjeianiahppaaGreatDoor
