/- The session book: contracts of the program and of the laws' helpers, joined (Kq). -/
import Derived.Test.YticjeianiahppaaGreatDoorBK
set_option linter.unusedVariables false
set_option linter.unusedSimpArgs false
set_option linter.unnecessarySimpa false
set_option maxRecDepth 100000
set_option maxHeartbeats 40000000
namespace Go.Proofs.YticjeianiahppaaGreatDoor
open Go.RowKit Go.Flow
variable {hd:Nat}
def zPo (hd g:Nat) (S:BSt) (A:Adr) (i:Nat) (w:World) (e:Ending) (w' : World):Prop:=∃ gd c7 vs,e=.returned (.pointer (some ⟨gd,i * 4,none⟩))∧KeepG g w w'∧StAt hd w' g S { A with aa:=some ⟨gd,0,none⟩,ca:=c7 }∧OwnL 192 4 w.heap.size w' (some ⟨gd,0,none⟩) c7 S.ds.length vs∧zAY 4 RD (mask hd g w) vs S.ds
theorem zC3 (g:Nat) (S:BSt) (A:Adr) (i:Nat) (w:World) (h:StAt hd w g S A) (F:Few S) (hi:i < S.ds.length) :
  Calls Tryz.prog 304 #[.pointer (some ⟨g,0,none⟩),.int .i64 (i:Int)] w (zPo hd g S A i w):=by
 have hg:=h.lt
 have f_ds:=F.ds
 have p12:=h.cells.cell 12
 simp at p12
 obtain ⟨vs,rv,sv⟩:=h.lists.ds
 have lv:=rv.1
 have ov:=rv.one oneD (by omega)
 replace sv:=zAh h.lt h.old sv
 have nv:A.aa=none→S.ds.length=0∧A.ca=0:=fun e => ⟨by have q:=h.lists.ds;rw [e] at q;rw [q.none (by omega)];rfl,h.lists.na e⟩
 have hiI:(i:Int) < (S.ds.length:Int):=by omega
 have hi0:(0:Int)≤(i:Int):=by omega
 go_enter Tryz.func304,Tryz.ntmps304
 go_wp2_with fail
 go_at_call 146
 refine (zHR A.aa S.ds.length A.ca vs w sv lv nv ov (by omega)).mono ?_
 rintro e w1 ⟨⟨a7,c7,rfl,o7⟩,hb1⟩
 obtain ⟨gr,rfl⟩:∃ gr,a7=some ⟨gr,0,none⟩:=by
  rcases o7.form with ⟨_,_,h,_⟩ | ⟨g,h,_⟩
  ·omega
  ·exact ⟨g,h⟩
 have h1:=h.below hb1
 have k1:=KeepG.of hg hb1
 have rv1:=zAY.below zHa rv (by rw [zAJ];exact zA0 h.lt h.old hb1)
 obtain ⟨hcn,hcm,hgr,hgl⟩:=o7.capped
 have q12:=h1.cells.cell 12
 have qf:=h1.cells.frozen 12
 have lg1:=h1.lt
 simp at q12
 have hne:g≠gr:=by omega
 go_upto_region 2 with fail
 obtain ⟨w2,hw2⟩:∃ x:World,x=w1.setCell ⟨g,12,none⟩ (.slice (some ⟨gr,0,none⟩) S.ds.length c7):=⟨_,rfl⟩
 have k2:KeepG g w w2:=by rw [hw2];exact k1.set 12 _
 have o2:OwnL 192 4 w.heap.size w2 (some ⟨gr,0,none⟩) c7 S.ds.length vs:=by rw [hw2];exact zDL o7 hne _
 have m2:mask hd g w2=mask hd g w1:=by rw [hw2,zEH]
 have rv2:zAY 4 RD (mask hd g w2) vs S.ds:=by rw [m2];exact rv1
 have hs:StAt hd w2 g S { A with aa:=some ⟨gr,0,none⟩,ca:=c7 }:=⟨by rw [hw2];exact h1.cells.set 12 _,{ (by rw [m2];exact h1.lists:Lists (mask hd g w2) S A) with ds:=zAI.own (o2.mask hg (by have:=h.old;omega)) rv2,na:=fun e => by cases e },Nat.lt_of_lt_of_le h.old k2.size⟩
 rw [← hw2]
 clear hw2
 have r12:=hs.cells.cell 12
 have lg2:=hs.lt
 simp at r12
 go_wp2
 go_ret
 exact ⟨gr,c7,vs,rfl,k2,hs,o2,rv⟩
theorem zJt {S:BSt} {i:Nat} (hi:i < S.ds.length):zCh S (i:Int)=S.ds[i]:=by simp [zCh,hi]
theorem zLM (g:Nat) (S:BSt) (A:Adr) (an:Option Addr) (cn:Nat) (dd st:Int) (w:World) (h:StAt hd w g S A) (F:Few S) (hn:IntsAt (mask hd g w) an [dd,st]) :
  Calls Tryz.prog 252 #[.pointer (some ⟨g,0,none⟩),.slice an 2 cn] w (zBA hd g S .passed [dd,st] w):=by
 have hg:=h.lt
 have f_ds:=F.ds
 obtain ⟨bn,on,rfl,ln,n0⟩:=(hn.unmask hg h.old) 0 (by simp)
 obtain ⟨_,_,e_1,_,n1⟩:=(hn.unmask hg h.old) 1 (by simp)
 obtain ⟨rfl,rfl⟩:=zAe e_1
 simp at n0 n1
 have ln0:=ln
 have hw0:=KeepG.refl hg
 have p12:=h.cells.cell 12
 simp at p12
 have nbg:bn≠g:=(zBZ (p:=⟨bn,on,none⟩) h.lt h.old (by have:=hn;exact (show (mask hd g w).cell? ⟨bn,on,none⟩=some (.int .i64 dd) by obtain ⟨b,o,e,_,c⟩:=hn 0 (by simp);obtain ⟨rfl,rfl⟩:=zAe e;simpa using c))).1
 obtain ⟨r1,hr1⟩:∃ r,idxB dd S.ds.length=r:=⟨_,rfl⟩
 have Hr1:Hid ((decide (0≤dd) && decide (dd≤((S.ds.length:Int) - 1)))=r1):=Lib.hid hr1
 obtain ⟨r2,hr2⟩:∃ r,betB st 0 6=r:=⟨_,rfl⟩
 have Hr2:Hid ((decide (0≤st) && decide (st≤6))=r2):=Lib.hid hr2
 have iw_d:IntKind.i64.wrap ((S.ds.length:Int) - 1)=(S.ds.length:Int) - 1:=IntWalk.i64_in _ (by omega)
 cases r1
 ·skip
  go_enter Tryz.func252,Tryz.ntmps252
  go_upto_region 0 with fail
  (refine zAC 18 (by kernel_rfl) (by kernel_rfl) ?_;simp only [zzA,zzB,zzC,zzD];(repeat (go_big_quiet_step (((go_at_call 181;refine zAH (zA6 dd 0 _ false Hr1 _))))));refine wpQuiet_nil ?_;rintro _ ⟨ex,rfl⟩;have hex:=ex.below;have hexz:=ex.size;(try simp at hexz);(try (have hy0:w.heap.size < ex.to.heap.size:=by omega));(try (have hy1:w.heap.size + 1 < ex.to.heap.size:=by omega));(try (have hy2:w.heap.size + 2 < ex.to.heap.size:=by omega)))
  obtain ⟨w1,hX⟩:∃ x:World,x=ex.to:=⟨_,rfl⟩
  rw [← hX] at hex ⊢
  clear hX hexz
  have hw1:KeepG g w w1:=hw0.trans (KeepG.of h.lt hex)
  replace n0:=zAA hex n0
  replace n1:=zAA hex n1
  replace ln:=Nat.lt_of_lt_of_le ln hex.size
  replace h:=h.below hex
  replace p12:=zAA hex p12
  replace hg:=h.lt
  clear hex
  go_wp2_with fail
  go_at_call 188
  refine (zAP 7 _).mono ?_
  rintro e _ ⟨rfl,rfl⟩
  exact ⟨rfl,.bad (zA1 (E:=7) (by simp [errC,chain,hr1]) (by decide)) (by decide) hw1 h.blk⟩
 have hr0:=hr1
 simp only [idxB,Bool.and_eq_true,decide_eq_true_eq] at hr0
 obtain ⟨i,rfl⟩:∃ i:Nat,dd=i:=⟨dd.toNat,by omega⟩
 have hi:i < S.ds.length:=by omega
 have hi0:(0:Int)≤(i:Int):=by omega
 clear hr0
 obtain ⟨D,hD⟩:∃ D,S.ds[i]=D:=⟨_,rfl⟩
 have hdo:zCh S (i:Int)=D:=by rw [zJt hi,hD]
 have HD:=Lib.hid hD
 obtain ⟨q,hq⟩:∃ q,D.passed.contains st=q:=⟨_,rfl⟩
 have HQ:=Lib.hid hq
 have fp:D.passed.length≤5:=by rw [← hD];exact F.passed _ (List.getElem_mem hi)
 have EC:Hid (errC S .passed [(i:Int),st]=chain [(r2,7),(!q,6),(decide (D.passed.length < 5),3)]):=Lib.hid (by show chain [(idxB (i:Int) S.ds.length && betB st 0 6,7),(!(zCh S (i:Int)).passed.contains st,6),(decide ((zCh S (i:Int)).passed.length < 5),3)]=_;rw [hr1,hr2,hdo,hq];rfl)
 clear hq
 clear hD hdo
 go_enter Tryz.func252,Tryz.ntmps252
 go_upto_region 0 with fail
 (refine zAC 18 (by kernel_rfl) (by kernel_rfl) ?_;simp only [zzA,zzB,zzC,zzD];(repeat (go_big_quiet_step (((go_at_call 181;first | (with_reducible refine zAH (zA6 (i:Int) 0 _ true Hr1 _)) | (with_reducible refine zAH (zA6 st 0 6 r2 Hr2 _)))))));refine wpQuiet_nil ?_;rintro _ ⟨ex,rfl⟩;have hex:=ex.below;have hexz:=ex.size;(try simp at hexz);(try (have hy0:w.heap.size < ex.to.heap.size:=by omega));(try (have hy1:w.heap.size + 1 < ex.to.heap.size:=by omega));(try (have hy2:w.heap.size + 2 < ex.to.heap.size:=by omega)))
 obtain ⟨w1,hX⟩:∃ x:World,x=ex.to:=⟨_,rfl⟩
 rw [← hX] at hex ⊢
 clear hX hexz
 have hw1:KeepG g w w1:=hw0.trans (KeepG.of h.lt hex)
 replace n0:=zAA hex n0
 replace n1:=zAA hex n1
 replace ln:=Nat.lt_of_lt_of_le ln hex.size
 replace h:=h.below hex
 replace p12:=zAA hex p12
 replace hg:=h.lt
 clear hex
 go_wp2_with fail
 go_at_call 188
 cases r2
 ·refine (zAP 7 _).mono ?_
  rintro e _ ⟨rfl,rfl⟩
  exact ⟨rfl,.bad (zA1 (E:=7) (by rw [EC.out];rfl) (by decide)) (by decide) hw1 h.blk⟩
 refine (zA3 7 _).mono ?_
 rintro e _ ⟨rfl,rfl⟩
 go_wp2_with fail
 go_at_call 304
 refine (zC3 g S A i _ h F hi).mono ?_
 have hA:=h
 rintro e w2 ⟨gd,c7,vs,rfl,kd,hs,oD,rvD⟩
 have hgb:g < w1.heap.size:=h.lt
 have hgbh:hd < w1.heap.size:=h.old
 have hw2:=hw1.trans kd
 obtain ⟨hcn,hcm,hgd,lgd⟩:=oD.capped
 have hnd:gd≠g:=by omega
 replace n0:=(kd.cell (p:=⟨bn,_,none⟩) (by show bn≠g;exact nbg) ln).trans n0
 replace n1:=(kd.cell (p:=⟨bn,_,none⟩) (by show bn≠g;exact nbg) ln).trans n1
 replace ln:=Nat.lt_of_lt_of_le ln kd.size
 replace h:=hs
 replace hg:=hs.lt
 clear hs
 obtain ⟨al,cl,ec,hpl,hple,npl⟩:=rvD.2 i hi
 rw [HD.out] at ec hpl hple
 have gc:=oD.at_ (take3 ec (j:=3) (by omega) rfl)
 have hplu:=(hpl.below kd.mh).unmask h.lt h.old
 have kAb:=Below.refl w2.heap.size w2
 have hD2:=h
 go_upto_region 2 with fail
 (refine zAC 9 (by kernel_rfl) (by kernel_rfl) ?_;simp only [zzA,zzB,zzC,zzD];(repeat (go_big_quiet_step (((go_at_call 280;refine zAH (Pay.zFz al D.passed D.passed.length cl rfl st q HQ _ (by omega) (hplu.below (Ext.below _))))))));refine wpQuiet_nil ?_;rintro _ ⟨ex,rfl⟩;have hex:=ex.below;have hexz:=ex.size;(try simp at hexz);(try (have hy0:w.heap.size < ex.to.heap.size:=by omega));(try (have hy1:w.heap.size + 1 < ex.to.heap.size:=by omega));(try (have hy2:w.heap.size + 2 < ex.to.heap.size:=by omega)))
 obtain ⟨w3,hX⟩:∃ x:World,x=ex.to:=⟨_,rfl⟩
 rw [← hX] at hex ⊢
 clear hX hexz
 have hw3:KeepG g w w3:=hw2.trans (KeepG.of h.lt hex)
 replace n0:=zAA hex n0
 replace n1:=zAA hex n1
 replace ln:=Nat.lt_of_lt_of_le ln hex.size
 replace gc:=zAA hex gc
 replace lgd:=Nat.lt_of_lt_of_le lgd hex.size
 replace oD:=oD.kept hex
 replace hplu:=hplu.below hex
 replace h:=h.below hex
 replace hg:=h.lt
 have hexk:=hex
 clear hex
 replace kAb:=hexk
 go_wp2_with fail
 go_at_call 188
 cases q
 rotate_left
 ·refine (zAP 6 _).mono ?_
  rintro e _ ⟨rfl,rfl⟩
  exact ⟨rfl,.bad (zA1 (E:=6) (by rw [EC.out];rfl) (by decide)) (by decide) hw3 h.blk⟩
 refine (zA3 6 _).mono ?_
 rintro e _ ⟨rfl,rfl⟩
 go_wp2_with fail
 go_at_call 188
 obtain ⟨q3,hq3⟩:∃ q,(decide ((D.passed.length:Int) < 5))=q:=⟨_,rfl⟩
 rw [hq3]
 cases q3
 ·refine (zAP 3 _).mono ?_
  rintro e _ ⟨rfl,rfl⟩
  exact ⟨rfl,.bad (zA1 (E:=3) (by simp at hq3;rw [EC.out];simp [chain];omega) (by decide)) (by decide) hw3 h.blk⟩
 refine (zA3 3 _).mono ?_
 rintro e _ ⟨rfl,rfl⟩
 replace hq3:(D.passed.length:Int) < 5:=by simpa using hq3
 obtain ⟨vs2,rv2,sv2⟩:=zNx hpl
 have lv2:=rv2.1
 have ov2:=rv2.one oneI (by omega)
 have nv2:al=none→D.passed.length=0∧cl=0:=fun e => ⟨by have q:=zNx hpl;rw [e] at q;rw [q.none (by omega)];rfl,npl e⟩
 replace sv2:=zAO (zAh hD2.lt hD2.old (zAO sv2 kd.mh)) kAb
 have gf:=(oD.room (j:=i * 4 + 3) (by omega)).2
 go_upto_region 4 with fail
 (refine zAD 11 [] [11] 57 [true,true,true,true,true,true,true,true,false,true,true] [OwnV 3 1 w3.heap.size (D.passed.length + 1) (vs2 ++ [.int .i64 st])] (by kernel_rfl) (by kernel_rfl) rfl (zAB (fun v w w' h hb => h.kept hb) zAR) ?_;simp only [zAU,List.filterMap_cons,List.filterMap_nil,zzH,zzI,zzJ];(repeat (refine zAM _ rfl (fun w => (by go_simp;rfl)) ?_));refine zAS ?_;simp only [zAF,zAt,Act.put,zzG,zzE,zzF,zzA,zzB,zzC,zzD];(repeat (refine zAL (fun K hK => ?_);go_simp;first | (refine hK _ ?_;clear hK K) | (apply Exists.intro;refine ⟨fun ex => ?_,hK _ ?_⟩;(fail);clear hK K)));refine zAQ ?_;simp only [zAT,under,zAZ,and_true,List.nil_append,List.cons_append])
 refine ⟨fun e => ?_,fun e => ?_⟩
 ·go_simp
  refine (zGw al D.passed.length cl vs2 e.to (zAO sv2 e.below) lv2 nv2 ov2 (by omega) st).mono ?_
  rintro _ _ ⟨⟨a',c',rfl,o⟩,b⟩
  exact ⟨b,a',c',rfl,o.base_le e.size⟩
 rintro v1 ⟨a7,c8,rfl,o7⟩
 simp only [Act.put,zzG,zzE,zzF]
 have heb:=e.below
 obtain ⟨w4,hV2⟩:∃ x:World,x=e.to:=⟨_,rfl⟩
 rw [← hV2] at heb o7 ⊢
 clear hV2 e
 have lgd3:=lgd
 have hgb2:g < w3.heap.size:=h.lt
 have hgb2h:hd < w3.heap.size:=h.old
 have kA:=kd.trans (KeepG.of hD2.lt (kAb.trans (heb.mono kAb.size)))
 have hw4:KeepG g w w4:=hw3.trans (KeepG.of h.lt heb)
 replace n0:=zAA heb n0
 replace n1:=zAA heb n1
 replace ln:=Nat.lt_of_lt_of_le ln heb.size
 replace gc:=zAA heb gc
 replace lgd:=Nat.lt_of_lt_of_le lgd heb.size
 replace oD:=oD.kept heb
 replace hplu:=hplu.below heb
 replace h:=h.below heb
 replace hg:=h.lt
 have gf:=(oD.room (j:=i * 4 + 3) (by omega)).2
 go_wp2
 have hne:g≠gd:=by omega
 obtain ⟨g7,rfl⟩:∃ g7,a7=some ⟨g7,0,none⟩:=by
  rcases o7.form with ⟨_,_,h,_⟩ | ⟨g,h,_⟩
  ·omega
  ·exact ⟨g,h⟩
 have hg7:=o7.capped
 obtain ⟨X,hX⟩:∃ x:World,x=w4.setCell ⟨gd,i * 4 + 3,none⟩ (.slice (some ⟨g7,0,none⟩) (D.passed.length + 1) c8):=⟨_,rfl⟩
 have kX:KeepG g w1 X:=by rw [hX];exact kA.set_new (p:=⟨gd,_,none⟩) hgd _
 have kW:KeepG g w X:=by rw [hX];exact hw4.set_new (p:=⟨gd,_,none⟩) (Nat.le_trans hw1.size hgd) _
 have oD2:OwnL 192 4 w1.heap.size X (some ⟨gd,0,none⟩) c7 S.ds.length (vs.set (i * 4 + 3) (.slice (some ⟨g7,0,none⟩) (D.passed.length + 1) c8)):=by rw [hX];exact oD.setV (by have:=oD.1;omega) _
 have o7' : OwnL 3 1 w3.heap.size X (some ⟨g7,0,none⟩) c8 (D.passed.length + 1) (vs2 ++ [.int .i64 st]):=by rw [hX];exact zDL o7 (show gd≠g7 by omega) _
 have hIa:zAI 1 RI (mask hd g X) (some ⟨g7,0,none⟩) (D.passed ++ [st]):=zAI.own (o7'.mask hgb2 hgb2h) (have r:=rv2.snoc (x:=st) (cs:=[.int .i64 st]) rfl rfl;⟨r.1,r.2⟩)
 have rv5:=zAY.below zHa rvD kX.mh
 have rp:zAY 4 RD (mask hd g X) (vs.set (i * 4 + 3) (.slice (some ⟨g7,0,none⟩) (D.passed.length + 1) c8)) (S.ds.modify i fun x => ⟨x.payer,x.lo,x.hi,x.passed ++ [st]⟩):=by
  refine rv5.put (by rw [List.length_set]) (fun q hq => by rw [List.getElem?_set_ne (by omega)]) fun hk => ?_
  obtain ⟨al0,ca0,e0,_⟩:=rv5.2 i hk
  refine ⟨some ⟨g7,0,none⟩,c8,?_,by simp only [HD.out];exact hIa.atI,by simp only [HD.out];simp;omega,fun e => by cases e⟩
  rw [List.drop_set,if_neg (by omega),List.take_set,e0,show i * 4 + 3 - i * 4=3 by omega]
  simp [HD.out]
 have hs:StAt hd X g (nxtC S .passed [(i:Int),st]) { A with aa:=some ⟨gd,0,none⟩,ca:=c7 }:=by
  have L:=hA.lists.below kX.mh
  refine ⟨?_,{ L with ds:=zAI.own (oD2.mask hgb hgbh) rp,na:=fun e => by cases e },Nat.lt_of_lt_of_le hA.old kX.size⟩
  have e:zAW (nxtC S .passed [(i:Int),st]) { A with aa:=some ⟨gd,0,none⟩,ca:=c7 }=zAW S { A with aa:=some ⟨gd,0,none⟩,ca:=c7 }:=by
   simp [nxtC,zBs]
  rw [e,hX];exact h.cells.other hne _ _
 rw [← hX]
 exact bodyPost_end (results_none rfl _ _ _) rfl ⟨kW,.inl ⟨zBy (by rw [EC.out];simp [chain];omega) rfl,rfl,_,hs⟩⟩
theorem zNR (g:Nat) (S:BSt) (A:Adr) (an:Option Addr) (cn:Nat) (dd lo hi_:Int) (w:World) (h:StAt hd w g S A) (F:Few S) (hn:IntsAt (mask hd g w) an [dd,lo,hi_]) :
  Calls Tryz.prog 253 #[.pointer (some ⟨g,0,none⟩),.slice an 3 cn] w (zBA hd g S .words [dd,lo,hi_] w):=by
 have hg:=h.lt
 have f_ds:=F.ds
 obtain ⟨bn,on,rfl,ln,n0⟩:=(hn.unmask hg h.old) 0 (by simp)
 obtain ⟨_,_,e_1,_,n1⟩:=(hn.unmask hg h.old) 1 (by simp)
 obtain ⟨rfl,rfl⟩:=zAe e_1
 obtain ⟨_,_,e_2,_,n2⟩:=(hn.unmask hg h.old) 2 (by simp)
 obtain ⟨rfl,rfl⟩:=zAe e_2
 simp at n0 n1 n2
 have ln0:=ln
 have hw0:=KeepG.refl hg
 have p12:=h.cells.cell 12
 simp at p12
 have nbg:bn≠g:=(zBZ (p:=⟨bn,on,none⟩) h.lt h.old (by have:=hn;exact (show (mask hd g w).cell? ⟨bn,on,none⟩=some (.int .i64 dd) by obtain ⟨b,o,e,_,c⟩:=hn 0 (by simp);obtain ⟨rfl,rfl⟩:=zAe e;simpa using c))).1
 obtain ⟨r1,hr1⟩:∃ r,idxB dd S.ds.length=r:=⟨_,rfl⟩
 have Hr1:Hid ((decide (0≤dd) && decide (dd≤((S.ds.length:Int) - 1)))=r1):=Lib.hid hr1
 have iw_d:IntKind.i64.wrap ((S.ds.length:Int) - 1)=(S.ds.length:Int) - 1:=IntWalk.i64_in _ (by omega)
 cases r1
 ·skip
  go_enter Tryz.func253,Tryz.ntmps253
  go_upto_region 0 with fail
  (refine zAC 12 (by kernel_rfl) (by kernel_rfl) ?_;simp only [zzA,zzB,zzC,zzD];(repeat (go_big_quiet_step (((go_at_call 181;refine zAH (zA6 dd 0 _ false Hr1 _))))));refine wpQuiet_nil ?_;rintro _ ⟨ex,rfl⟩;have hex:=ex.below;have hexz:=ex.size;(try simp at hexz);(try (have hy0:w.heap.size < ex.to.heap.size:=by omega));(try (have hy1:w.heap.size + 1 < ex.to.heap.size:=by omega));(try (have hy2:w.heap.size + 2 < ex.to.heap.size:=by omega)))
  obtain ⟨w1,hX⟩:∃ x:World,x=ex.to:=⟨_,rfl⟩
  rw [← hX] at hex ⊢
  clear hX hexz
  have hw1:KeepG g w w1:=hw0.trans (KeepG.of h.lt hex)
  replace n0:=zAA hex n0
  replace n1:=zAA hex n1
  replace n2:=zAA hex n2
  replace ln:=Nat.lt_of_lt_of_le ln hex.size
  replace h:=h.below hex
  replace p12:=zAA hex p12
  replace hg:=h.lt
  clear hex
  go_wp2_with fail
  go_at_call 188
  refine (zAP 7 _).mono ?_
  rintro e _ ⟨rfl,rfl⟩
  exact ⟨rfl,.bad (zA1 (E:=7) (by simp [errC,chain,hr1]) (by decide)) (by decide) hw1 h.blk⟩
 have hr0:=hr1
 simp only [idxB,Bool.and_eq_true,decide_eq_true_eq] at hr0
 obtain ⟨i,rfl⟩:∃ i:Nat,dd=i:=⟨dd.toNat,by omega⟩
 have hi:i < S.ds.length:=by omega
 have hi0:(0:Int)≤(i:Int):=by omega
 clear hr0
 obtain ⟨D,hD⟩:∃ D,S.ds[i]=D:=⟨_,rfl⟩
 have hdo:zCh S (i:Int)=D:=by rw [zJt hi,hD]
 have HD:=Lib.hid hD
 obtain ⟨q1,hq1⟩:∃ q,decide (D.lo≤lo)=q:=⟨_,rfl⟩
 obtain ⟨q2,hq2⟩:∃ q,decide (lo≤hi_)=q:=⟨_,rfl⟩
 obtain ⟨q3,hq3⟩:∃ q,decide (hi_≤D.hi)=q:=⟨_,rfl⟩
 have EC:Hid (errC S .words [(i:Int),lo,hi_]=chain [(true,7),(q1 && q2 && q3,2)]):=Lib.hid (by show chain [(idxB (i:Int) S.ds.length,7),(decide ((zCh S (i:Int)).lo≤lo) && decide (lo≤hi_) && decide (hi_≤(zCh S (i:Int)).hi),2)]=_;rw [hr1,hdo,hq1,hq2,hq3])
 clear hD hdo
 go_enter Tryz.func253,Tryz.ntmps253
 go_upto_region 0 with fail
 (refine zAC 12 (by kernel_rfl) (by kernel_rfl) ?_;simp only [zzA,zzB,zzC,zzD];(repeat (go_big_quiet_step (((go_at_call 181;refine zAH (zA6 (i:Int) 0 _ true Hr1 _))))));refine wpQuiet_nil ?_;rintro _ ⟨ex,rfl⟩;have hex:=ex.below;have hexz:=ex.size;(try simp at hexz);(try (have hy0:w.heap.size < ex.to.heap.size:=by omega));(try (have hy1:w.heap.size + 1 < ex.to.heap.size:=by omega));(try (have hy2:w.heap.size + 2 < ex.to.heap.size:=by omega)))
 obtain ⟨w1,hX⟩:∃ x:World,x=ex.to:=⟨_,rfl⟩
 rw [← hX] at hex ⊢
 clear hX hexz
 have hw1:KeepG g w w1:=hw0.trans (KeepG.of h.lt hex)
 replace n0:=zAA hex n0
 replace n1:=zAA hex n1
 replace n2:=zAA hex n2
 replace ln:=Nat.lt_of_lt_of_le ln hex.size
 replace h:=h.below hex
 replace p12:=zAA hex p12
 replace hg:=h.lt
 clear hex
 go_wp2_with fail
 go_at_call 188
 refine (zA3 7 _).mono ?_
 rintro e _ ⟨rfl,rfl⟩
 go_wp2_with fail
 go_at_call 304
 refine (zC3 g S A i _ h F hi).mono ?_
 have hA:=h
 rintro e w2 ⟨gd,c7,vs,rfl,kd,hs,oD,rvD⟩
 have hgb:g < w1.heap.size:=h.lt
 have hgbh:hd < w1.heap.size:=h.old
 have hw2:=hw1.trans kd
 obtain ⟨hcn,hcm,hgd,lgd⟩:=oD.capped
 have hnd:gd≠g:=by omega
 replace n0:=(kd.cell (p:=⟨bn,_,none⟩) (by show bn≠g;exact nbg) ln).trans n0
 replace n1:=(kd.cell (p:=⟨bn,_,none⟩) (by show bn≠g;exact nbg) ln).trans n1
 replace n2:=(kd.cell (p:=⟨bn,_,none⟩) (by show bn≠g;exact nbg) ln).trans n2
 replace ln:=Nat.lt_of_lt_of_le ln kd.size
 replace h:=hs
 replace hg:=hs.lt
 clear hs
 obtain ⟨al,cl,ec,hpl,hple,npl⟩:=rvD.2 i hi
 rw [HD.out] at ec hpl hple
 have g0:=oD.at_ (take3 ec (j:=0) (by omega) rfl)
 have g1:=oD.at_ (take3 ec (j:=1) (by omega) rfl)
 have g2:=oD.at_ (take3 ec (j:=2) (by omega) rfl)
 have kAb:=Below.refl w2.heap.size w2
 have hD2:=h
 cases q1
 ·skip
  go_upto_region 2 with fail
  (refine zAC 29 (by kernel_rfl) (by kernel_rfl) ?_;simp only [zzA,zzB,zzC,zzD];(repeat (go_big_quiet_step ((fail))));refine wpQuiet_nil ?_;rintro _ ⟨ex,rfl⟩;have hex:=ex.below;have hexz:=ex.size;(try simp at hexz);(try (have hy0:w.heap.size < ex.to.heap.size:=by omega));(try (have hy1:w.heap.size + 1 < ex.to.heap.size:=by omega));(try (have hy2:w.heap.size + 2 < ex.to.heap.size:=by omega)))
  obtain ⟨w3,hX⟩:∃ x:World,x=ex.to:=⟨_,rfl⟩
  rw [← hX] at hex ⊢
  clear hX hexz
  have hw3:KeepG g w w3:=hw2.trans (KeepG.of h.lt hex)
  replace n0:=zAA hex n0
  replace n1:=zAA hex n1
  replace n2:=zAA hex n2
  replace ln:=Nat.lt_of_lt_of_le ln hex.size
  replace g1:=zAA hex g1
  replace g2:=zAA hex g2
  replace lgd:=Nat.lt_of_lt_of_le lgd hex.size
  replace oD:=oD.kept hex
  replace h:=h.below hex
  replace hg:=h.lt
  clear hex
  go_wp2_with fail
  go_at_call 188
  refine (zAP 2 _).mono ?_
  rintro e _ ⟨rfl,rfl⟩
  exact ⟨rfl,.bad (zA1 (E:=2) (by rw [EC.out];rfl) (by decide)) (by decide) hw3 h.blk⟩
 have p1:D.lo≤lo:=by simpa using hq1
 cases q2
 ·skip
  go_upto_region 2 with fail
  (refine zAC 29 (by kernel_rfl) (by kernel_rfl) ?_;simp only [zzA,zzB,zzC,zzD];(repeat (go_big_quiet_step ((fail))));refine wpQuiet_nil ?_;rintro _ ⟨ex,rfl⟩;have hex:=ex.below;have hexz:=ex.size;(try simp at hexz);(try (have hy0:w.heap.size < ex.to.heap.size:=by omega));(try (have hy1:w.heap.size + 1 < ex.to.heap.size:=by omega));(try (have hy2:w.heap.size + 2 < ex.to.heap.size:=by omega)))
  obtain ⟨w3,hX⟩:∃ x:World,x=ex.to:=⟨_,rfl⟩
  rw [← hX] at hex ⊢
  clear hX hexz
  have hw3:KeepG g w w3:=hw2.trans (KeepG.of h.lt hex)
  replace n0:=zAA hex n0
  replace n1:=zAA hex n1
  replace n2:=zAA hex n2
  replace ln:=Nat.lt_of_lt_of_le ln hex.size
  replace g1:=zAA hex g1
  replace g2:=zAA hex g2
  replace lgd:=Nat.lt_of_lt_of_le lgd hex.size
  replace oD:=oD.kept hex
  replace h:=h.below hex
  replace hg:=h.lt
  clear hex
  go_wp2_with fail
  go_at_call 188
  refine (zAP 2 _).mono ?_
  rintro e _ ⟨rfl,rfl⟩
  exact ⟨rfl,.bad (zA1 (E:=2) (by rw [EC.out];rfl) (by decide)) (by decide) hw3 h.blk⟩
 have p2:lo≤hi_:=by simpa using hq2
 cases q3
 ·skip
  go_upto_region 2 with fail
  (refine zAC 29 (by kernel_rfl) (by kernel_rfl) ?_;simp only [zzA,zzB,zzC,zzD];(repeat (go_big_quiet_step ((fail))));refine wpQuiet_nil ?_;rintro _ ⟨ex,rfl⟩;have hex:=ex.below;have hexz:=ex.size;(try simp at hexz);(try (have hy0:w.heap.size < ex.to.heap.size:=by omega));(try (have hy1:w.heap.size + 1 < ex.to.heap.size:=by omega));(try (have hy2:w.heap.size + 2 < ex.to.heap.size:=by omega)))
  obtain ⟨w3,hX⟩:∃ x:World,x=ex.to:=⟨_,rfl⟩
  rw [← hX] at hex ⊢
  clear hX hexz
  have hw3:KeepG g w w3:=hw2.trans (KeepG.of h.lt hex)
  replace n0:=zAA hex n0
  replace n1:=zAA hex n1
  replace n2:=zAA hex n2
  replace ln:=Nat.lt_of_lt_of_le ln hex.size
  replace g1:=zAA hex g1
  replace g2:=zAA hex g2
  replace lgd:=Nat.lt_of_lt_of_le lgd hex.size
  replace oD:=oD.kept hex
  replace h:=h.below hex
  replace hg:=h.lt
  clear hex
  go_wp2_with fail
  go_at_call 188
  refine (zAP 2 _).mono ?_
  rintro e _ ⟨rfl,rfl⟩
  exact ⟨rfl,.bad (zA1 (E:=2) (by rw [EC.out];rfl) (by decide)) (by decide) hw3 h.blk⟩
 have p3:hi_≤D.hi:=by simpa using hq3
 go_upto_region 2 with fail
 (refine zAC 29 (by kernel_rfl) (by kernel_rfl) ?_;simp only [zzA,zzB,zzC,zzD];(repeat (go_big_quiet_step ((fail))));refine wpQuiet_nil ?_;rintro _ ⟨ex,rfl⟩;have hex:=ex.below;have hexz:=ex.size;(try simp at hexz);(try (have hy0:w.heap.size < ex.to.heap.size:=by omega));(try (have hy1:w.heap.size + 1 < ex.to.heap.size:=by omega));(try (have hy2:w.heap.size + 2 < ex.to.heap.size:=by omega)))
 obtain ⟨w3,hX⟩:∃ x:World,x=ex.to:=⟨_,rfl⟩
 rw [← hX] at hex ⊢
 clear hX hexz
 have hw3:KeepG g w w3:=hw2.trans (KeepG.of h.lt hex)
 replace n0:=zAA hex n0
 replace n1:=zAA hex n1
 replace n2:=zAA hex n2
 replace ln:=Nat.lt_of_lt_of_le ln hex.size
 replace g1:=zAA hex g1
 replace g2:=zAA hex g2
 replace lgd:=Nat.lt_of_lt_of_le lgd hex.size
 replace oD:=oD.kept hex
 replace h:=h.below hex
 replace hg:=h.lt
 have hexk:=hex
 clear hex
 replace kAb:=hexk
 go_wp2_with fail
 go_at_call 188
 refine (zA3 2 _).mono ?_
 rintro e _ ⟨rfl,rfl⟩
 go_upto_region 3 with fail
 (refine zAC 10 (by kernel_rfl) (by kernel_rfl) ?_;simp only [zzA,zzB,zzC,zzD];(repeat (go_big_quiet_step ((fail))));refine wpQuiet_nil ?_;rintro _ ⟨ex,rfl⟩;have hex:=ex.below;have hexz:=ex.size;(try simp at hexz);(try (have hy0:w.heap.size < ex.to.heap.size:=by omega));(try (have hy1:w.heap.size + 1 < ex.to.heap.size:=by omega));(try (have hy2:w.heap.size + 2 < ex.to.heap.size:=by omega)))
 obtain ⟨w4,hX⟩:∃ x:World,x=ex.to:=⟨_,rfl⟩
 rw [← hX] at hex ⊢
 clear hX hexz
 have hw4:KeepG g w w4:=hw3.trans (KeepG.of h.lt hex)
 replace n0:=zAA hex n0
 replace n1:=zAA hex n1
 replace n2:=zAA hex n2
 replace ln:=Nat.lt_of_lt_of_le ln hex.size
 replace g1:=zAA hex g1
 replace g2:=zAA hex g2
 replace lgd:=Nat.lt_of_lt_of_le lgd hex.size
 replace oD:=oD.kept hex
 replace h:=h.below hex
 replace hg:=h.lt
 have hexk:=hex
 clear hex
 replace kAb:=kAb.trans (hexk.mono kAb.size)
 have gf1:=(oD.room (j:=i * 4 + 1) (by omega)).2
 have gf2:=(oD.room (j:=i * 4 + 1 + 1) (by omega)).2
 have kA:=kd.trans (KeepG.of hD2.lt kAb)
 go_wp2
 have hne:g≠gd:=by omega
 obtain ⟨X,hX⟩:∃ x:World,x=(w4.setCell ⟨gd,i * 4 + 1,none⟩ (.int .i64 lo)).setCell ⟨gd,i * 4 + 1 + 1,none⟩ (.int .i64 hi_):=⟨_,rfl⟩
 have kX:KeepG g w1 X:=by rw [hX];exact (kA.set_new (p:=⟨gd,_,none⟩) hgd _).set_new (p:=⟨gd,_,none⟩) hgd _
 have kW:KeepG g w X:=hw1.trans kX
 have oD2:OwnL 192 4 w1.heap.size X (some ⟨gd,0,none⟩) c7 S.ds.length ((vs.set (i * 4 + 1) (.int .i64 lo)).set (i * 4 + 1 + 1) (.int .i64 hi_)):=by rw [hX];exact (oD.setV (by have:=oD.1;omega) _).setV (j:=i * 4 + 1 + 1) (by have:=oD.1;rw [List.length_set];omega) _
 have rv5:=zAY.below zHa rvD kX.mh
 have rp:zAY 4 RD (mask hd g X) ((vs.set (i * 4 + 1) (.int .i64 lo)).set (i * 4 + 1 + 1) (.int .i64 hi_)) (S.ds.modify i fun x => ⟨x.payer,lo,hi_,x.passed⟩):=by
  refine rv5.put (by rw [List.length_set,List.length_set]) (fun q hq => by rw [List.getElem?_set_ne (by omega),List.getElem?_set_ne (by omega)]) fun hk => ?_
  obtain ⟨al0,ca0,e0,e1,e2,e3⟩:=rv5.2 i hk
  refine ⟨al0,ca0,?_,e1,e2,e3⟩
  rw [List.drop_set,if_neg (by omega),List.take_set,List.drop_set,if_neg (by omega),List.take_set,e0,show i * 4 + 1 - i * 4=1 by omega,show i * 4 + 1 + 1 - i * 4=2 by omega]
  rfl
 have hs:StAt hd X g (nxtC S .words [(i:Int),lo,hi_]) { A with aa:=some ⟨gd,0,none⟩,ca:=c7 }:=by
  have L:=hA.lists.below kX.mh
  refine ⟨?_,{ L with ds:=zAI.own (oD2.mask hgb hgbh) rp,na:=fun e => by cases e },Nat.lt_of_lt_of_le hA.old kX.size⟩
  have e:zAW (nxtC S .words [(i:Int),lo,hi_]) { A with aa:=some ⟨gd,0,none⟩,ca:=c7 }=zAW S { A with aa:=some ⟨gd,0,none⟩,ca:=c7 }:=by
   simp [nxtC,zBs]
  rw [e,hX];exact (h.cells.other hne _ _).other hne _ _
 rw [← hX]
 exact bodyPost_end (results_none rfl _ _ _) rfl ⟨kW,.inl ⟨zBy (by rw [EC.out];rfl) rfl,rfl,_,hs⟩⟩
end Go.Proofs.YticjeianiahppaaGreatDoor
