/- The session book: contracts of the program and of the laws' helpers, joined (Kh, Kj). -/
import Derived.Test.YticjeianiahppaaGreatDoorBG
set_option linter.unusedVariables false
set_option linter.unusedSimpArgs false
set_option linter.unnecessarySimpa false
set_option maxRecDepth 100000
set_option maxHeartbeats 40000000
namespace Go.Proofs.YticjeianiahppaaGreatDoor
open Go.RowKit Go.Flow
variable {hd:Nat}
theorem zM0 (a:Option Addr) (n c i:Nat) (vs:List Value) (w:World) (hs:SrcAt w a vs) (hl:vs.length=n * 2) (hi:i < n) (h1:∀ u ∈ vs,u.oneCell'=true) (hk:n≤1000) :
  Calls Tryz.prog 294 #[.slice a n c,.int .i64 (i:Int)] w fun e w' => (∃ a' c',e=.returned (.slice a' (n - 1) c')∧OwnL 189 2 w.heap.size w' a' c' (n - 1) (vs.take (i * 2) ++ vs.drop ((i + 1) * 2)))∧Below w.heap.size w w':=by
 obtain ⟨m,rfl⟩:∃ m,n=m + 1:=⟨n - 1,by omega⟩
 exact zOB a m c i vs w hs hl (by omega) h1 (by omega)
theorem zOA (a:Option Addr) (n c i:Nat) (vs:List Value) (w:World) (hs:SrcAt w a vs) (hl:vs.length=n * 3) (hi:i < n) (h1:∀ u ∈ vs,u.oneCell'=true) (hk:n≤1000) :
  Calls Tryz.prog 302 #[.slice a n c,.int .i64 (i:Int)] w fun e w' => (∃ a' c',e=.returned (.slice a' (n - 1) c')∧OwnL 182 3 w.heap.size w' a' c' (n - 1) (vs.take (i * 3) ++ vs.drop ((i + 1) * 3)))∧Below w.heap.size w w':=by
 obtain ⟨m,rfl⟩:∃ m,n=m + 1:=⟨n - 1,by omega⟩
 exact zPT a m c i vs w hs hl (by omega) h1 (by omega)
theorem zOU {α:Type} (l:List α) (i:Nat):zDn l (i:Int)=l.take i ++ l.drop (i + 1):=rfl
theorem zGf {α:Type} {l:List α} {i:Nat} (h:i < l.length):(zDn l (i:Int)).length=l.length - 1:=by
 rw [zOU,List.length_append,List.length_take,List.length_drop];omega
theorem zOa (g:Nat) (S:BSt) (A:Adr) (an:Option Addr) (cn:Nat) (k d:Int) (w:World) (h:StAt hd w g S A) (F:Few S) (hn:IntsAt (mask hd g w) an [k,d]) :
  Calls Tryz.prog 240 #[.pointer (some ⟨g,0,none⟩),.slice an 2 cn] w (zBA hd g S .lost [k,d] w):=by
 have hg:=h.lt
 have f_keys:=F.keys
 have f_days:=F.days
 have f_lost:=F.lost
 obtain ⟨bn,on,rfl,ln,n0⟩:=(hn.unmask hg h.old) 0 (by simp)
 obtain ⟨_,_,e_1,_,n1⟩:=(hn.unmask hg h.old) 1 (by simp)
 obtain ⟨rfl,rfl⟩:=zAe e_1
 simp at n0 n1
 have ln0:=ln
 have hw0:=KeepG.refl hg
 have p2:=h.cells.cell 2
 simp at p2
 have p3:=h.cells.cell 3
 simp at p3
 have p4:=h.cells.cell 4
 simp at p4
 obtain ⟨r1,hr1⟩:∃ r,idxB k S.keys.length=r:=⟨_,rfl⟩
 have Hr1:Hid ((decide (0≤k) && decide (k≤((S.keys.length:Int) - 1)))=r1):=Lib.hid hr1
 obtain ⟨r2,hr2⟩:∃ r,idxB d S.days.length=r:=⟨_,rfl⟩
 have Hr2:Hid ((decide (0≤d) && decide (d≤((S.days.length:Int) - 1)))=r2):=Lib.hid hr2
 have iw_k:IntKind.i64.wrap ((S.keys.length:Int) - 1)=(S.keys.length:Int) - 1:=IntWalk.i64_in _ (by omega)
 have iw_d:IntKind.i64.wrap ((S.days.length:Int) - 1)=(S.days.length:Int) - 1:=IntWalk.i64_in _ (by omega)
 cases r1
 ·skip
  go_enter Tryz.func240,Tryz.ntmps240
  go_upto_region 0 with fail
  (refine zAC 24 (by kernel_rfl) (by kernel_rfl) ?_;simp only [zzA,zzB,zzC,zzD];(repeat (go_big_quiet_step (((go_at_call 181;refine zAH (zA6 k 0 _ false Hr1 _))))));refine wpQuiet_nil ?_;rintro _ ⟨ex,rfl⟩;have hex:=ex.below;have hexz:=ex.size;(try simp at hexz);(try (have hy0:w.heap.size < ex.to.heap.size:=by omega));(try (have hy1:w.heap.size + 1 < ex.to.heap.size:=by omega));(try (have hy2:w.heap.size + 2 < ex.to.heap.size:=by omega)))
  obtain ⟨w1,hX⟩:∃ x:World,x=ex.to:=⟨_,rfl⟩
  rw [← hX] at hex ⊢
  clear hX hexz
  have hw1:KeepG g w w1:=hw0.trans (KeepG.of h.lt hex)
  replace n0:=zAA hex n0
  replace n1:=zAA hex n1
  replace ln:=Nat.lt_of_lt_of_le ln hex.size
  replace h:=h.below hex
  replace p2:=zAA hex p2
  replace p3:=zAA hex p3
  replace p4:=zAA hex p4
  replace hg:=h.lt
  clear hex
  go_wp2_with fail
  go_at_call 188
  refine (zAP 7 _).mono ?_
  rintro e _ ⟨rfl,rfl⟩
  exact ⟨rfl,.bad (zA1 (E:=7) (by simp [errC,chain,hr1]) (by decide)) (by decide) hw1 h.blk⟩
 go_enter Tryz.func240,Tryz.ntmps240
 go_upto_region 0 with fail
 (refine zAC 24 (by kernel_rfl) (by kernel_rfl) ?_;simp only [zzA,zzB,zzC,zzD];(repeat (go_big_quiet_step (((go_at_call 181;first | (with_reducible refine zAH (zA6 k 0 _ true Hr1 _)) | (with_reducible refine zAH (zA6 d 0 _ r2 Hr2 _)))))));refine wpQuiet_nil ?_;rintro _ ⟨ex,rfl⟩;have hex:=ex.below;have hexz:=ex.size;(try simp at hexz);(try (have hy0:w.heap.size < ex.to.heap.size:=by omega));(try (have hy1:w.heap.size + 1 < ex.to.heap.size:=by omega));(try (have hy2:w.heap.size + 2 < ex.to.heap.size:=by omega)))
 obtain ⟨w1,hX⟩:∃ x:World,x=ex.to:=⟨_,rfl⟩
 rw [← hX] at hex ⊢
 clear hX hexz
 have hw1:KeepG g w w1:=hw0.trans (KeepG.of h.lt hex)
 replace n0:=zAA hex n0
 replace n1:=zAA hex n1
 replace ln:=Nat.lt_of_lt_of_le ln hex.size
 replace h:=h.below hex
 replace p2:=zAA hex p2
 replace p3:=zAA hex p3
 replace p4:=zAA hex p4
 replace hg:=h.lt
 clear hex
 go_wp2_with fail
 go_at_call 188
 cases r2
 ·refine (zAP 7 _).mono ?_
  rintro e _ ⟨rfl,rfl⟩
  exact ⟨rfl,.bad (zA1 (E:=7) (by simp [errC,chain,hr1,hr2]) (by decide)) (by decide) hw1 h.blk⟩
 refine (zA3 7 _).mono ?_
 rintro e _ ⟨rfl,rfl⟩
 go_wp2_with fail
 go_at_call 188
 obtain ⟨q3,hq3⟩:∃ q,(decide ((S.lost.length:Int) < 6))=q:=⟨_,rfl⟩
 rw [hq3]
 cases q3
 ·refine (zAP 3 _).mono ?_
  rintro e _ ⟨rfl,rfl⟩
  exact ⟨rfl,.bad (zA1 (E:=3) (by simp at hq3;simp [errC,chain,hr1,hr2];omega) (by decide)) (by decide) hw1 h.blk⟩
 refine (zA3 3 _).mono ?_
 rintro e _ ⟨rfl,rfl⟩
 replace hq3:(S.lost.length:Int) < 6:=by simpa using hq3
 obtain ⟨vs,rv,sv⟩:=h.lists.lost
 have lv:=rv.1
 have ov:=rv.one oneP (by omega)
 replace sv:=zAh h.lt h.old sv
 have nv:A.al=none→S.lost.length=0∧A.cl=0:=fun e => ⟨by have q:=h.lists.lost;rw [e] at q;rw [q.none (by omega)];rfl,h.lists.nl e⟩
 go_upto_region 2 with fail
 (refine zAD 17 [] [17] 54 [true,true,true,true,true,true,true,true,true,true,true,true,true,false,true,true,true] [OwnV 189 2 w1.heap.size (S.lost.length + 1) (vs ++ [.int .i64 k,.int .i64 d])] (by kernel_rfl) (by kernel_rfl) rfl (zAB (fun v w w' h hb => h.kept hb) zAR) ?_;simp only [zAU,List.filterMap_cons,List.filterMap_nil,zzH,zzI,zzJ];(repeat (refine zAM _ rfl (fun w => (by go_simp;rfl)) ?_));refine zAS ?_;simp only [zAF,zAt,Act.put,zzG,zzE,zzF,zzA,zzB,zzC,zzD];(repeat (refine zAL (fun K hK => ?_);go_simp;first | (refine hK _ ?_;clear hK K) | (apply Exists.intro;refine ⟨fun ex => ?_,hK _ ?_⟩;(fail);clear hK K)));refine zAQ ?_;simp only [zAT,under,zAZ,and_true,List.nil_append,List.cons_append])
 refine ⟨fun e => ?_,fun e => ?_⟩
 ·go_simp
  refine (zNq A.al S.lost.length A.cl vs e.to (zAO sv e.below) lv nv ov (by omega) k d).mono ?_
  rintro _ _ ⟨⟨a',c',rfl,o⟩,b⟩
  exact ⟨b,a',c',rfl,o.base_le e.size⟩
 rintro v1 ⟨a7,c7,rfl,o7⟩
 simp only [Act.put,zzG,zzE,zzF]
 have heb:=e.below
 obtain ⟨w2,hV2⟩:∃ x:World,x=e.to:=⟨_,rfl⟩
 rw [← hV2] at heb o7 ⊢
 clear hV2 e
 have rv':=zAY.below zJ3 rv (by rw [zAJ];exact zA0 h.lt h.old heb)
 have hgb:g < w1.heap.size:=h.lt
 have hgbh:hd < w1.heap.size:=h.old
 have hw2:KeepG g w w2:=hw1.trans (KeepG.of h.lt heb)
 replace n0:=zAA heb n0
 replace n1:=zAA heb n1
 replace ln:=Nat.lt_of_lt_of_le ln heb.size
 replace h:=h.below heb
 replace p2:=zAA heb p2
 replace p3:=zAA heb p3
 replace p4:=zAA heb p4
 replace hg:=h.lt
 have pf:=h.cells.frozen 4
 go_wp2
 refine bodyPost_end (results_none rfl _ _ _) rfl ⟨hw2.set 4 _,.inl ⟨zBy (by simp [errC,chain,hr1,hr2];omega) rfl,rfl,⟨{ A with al:=a7,cl:=c7 },h.put (by simp [nxtC]) ?_⟩⟩⟩
 have L:=h.lists
 exact { L with lost:=zAI.own (o7.mask hgb hgbh) (rv'.snoc rfl rfl),nl:=fun e => by subst e;exact zBY o7 }
theorem zNU (g:Nat) (S:BSt) (A:Adr) (an:Option Addr) (cn:Nat) (k:Int) (w:World) (h:StAt hd w g S A) (F:Few S) (hn:IntsAt (mask hd g w) an [k]) :
  Calls Tryz.prog 241 #[.pointer (some ⟨g,0,none⟩),.slice an 1 cn] w (zBA hd g S .found [k] w):=by
 have hg:=h.lt
 have f_lost:=F.lost
 obtain ⟨bn,on,rfl,ln,n0⟩:=(hn.unmask hg h.old) 0 (by simp)
 simp at n0
 have ln0:=ln
 have hw0:=KeepG.refl hg
 have p4:=h.cells.cell 4
 simp at p4
 obtain ⟨r,hr⟩:∃ r,idxB k S.lost.length=r:=⟨_,rfl⟩
 have Hr:Hid ((decide (0≤k) && decide (k≤((S.lost.length:Int) - 1)))=r):=Lib.hid hr
 have iw_k:IntKind.i64.wrap ((S.lost.length:Int) - 1)=(S.lost.length:Int) - 1:=IntWalk.i64_in _ (by omega)
 cases r
 ·skip
  go_enter Tryz.func241,Tryz.ntmps241
  go_upto_region 0 with fail
  (refine zAC 11 (by kernel_rfl) (by kernel_rfl) ?_;simp only [zzA,zzB,zzC,zzD];(repeat (go_big_quiet_step (((go_at_call 181;refine zAH (zA6 k 0 _ false Hr _))))));refine wpQuiet_nil ?_;rintro _ ⟨ex,rfl⟩;have hex:=ex.below;have hexz:=ex.size;(try simp at hexz);(try (have hy0:w.heap.size < ex.to.heap.size:=by omega));(try (have hy1:w.heap.size + 1 < ex.to.heap.size:=by omega));(try (have hy2:w.heap.size + 2 < ex.to.heap.size:=by omega)))
  obtain ⟨w1,hX⟩:∃ x:World,x=ex.to:=⟨_,rfl⟩
  rw [← hX] at hex ⊢
  clear hX hexz
  have hw1:KeepG g w w1:=hw0.trans (KeepG.of h.lt hex)
  replace n0:=zAA hex n0
  replace ln:=Nat.lt_of_lt_of_le ln hex.size
  replace h:=h.below hex
  replace p4:=zAA hex p4
  replace hg:=h.lt
  clear hex
  go_wp2_with fail
  go_at_call 188
  refine (zAP 7 _).mono ?_
  rintro e _ ⟨rfl,rfl⟩
  exact ⟨rfl,.bad (zA1 (E:=7) (by simp [errC,chain,hr]) (by decide)) (by decide) hw1 h.blk⟩
 have hr0:=hr
 simp only [idxB,Bool.and_eq_true,decide_eq_true_eq] at hr0
 obtain ⟨i,rfl⟩:∃ i:Nat,k=i:=⟨k.toNat,by omega⟩
 have hi:i < S.lost.length:=by omega
 clear hr0
 go_enter Tryz.func241,Tryz.ntmps241
 go_upto_region 0 with fail
 (refine zAC 11 (by kernel_rfl) (by kernel_rfl) ?_;simp only [zzA,zzB,zzC,zzD];(repeat (go_big_quiet_step (((go_at_call 181;refine zAH (zA6 (i:Int) 0 _ true Hr _))))));refine wpQuiet_nil ?_;rintro _ ⟨ex,rfl⟩;have hex:=ex.below;have hexz:=ex.size;(try simp at hexz);(try (have hy0:w.heap.size < ex.to.heap.size:=by omega));(try (have hy1:w.heap.size + 1 < ex.to.heap.size:=by omega));(try (have hy2:w.heap.size + 2 < ex.to.heap.size:=by omega)))
 obtain ⟨w1,hX⟩:∃ x:World,x=ex.to:=⟨_,rfl⟩
 rw [← hX] at hex ⊢
 clear hX hexz
 have hw1:KeepG g w w1:=hw0.trans (KeepG.of h.lt hex)
 replace n0:=zAA hex n0
 replace ln:=Nat.lt_of_lt_of_le ln hex.size
 replace h:=h.below hex
 replace p4:=zAA hex p4
 replace hg:=h.lt
 clear hex
 go_wp2_with fail
 go_at_call 188
 refine (zA3 7 _).mono ?_
 rintro e _ ⟨rfl,rfl⟩
 obtain ⟨vs,rv,sv⟩:=h.lists.lost
 have lv:=rv.1
 have ov:=rv.one oneP (by omega)
 replace sv:=zAh h.lt h.old sv
 have nv:A.al=none→S.lost.length=0∧A.cl=0:=fun e => ⟨by have q:=h.lists.lost;rw [e] at q;rw [q.none (by omega)];rfl,h.lists.nl e⟩
 go_upto_region 1 with fail
 (refine zAD 13 [] [13] 29 [true,true,true,true,true,true,true,true,true,false,true,true,true] [OwnV 189 2 w1.heap.size (S.lost.length - 1) (vs.take (i * 2) ++ vs.drop ((i + 1) * 2))] (by kernel_rfl) (by kernel_rfl) rfl (zAB (fun v w w' h hb => h.kept hb) zAR) ?_;simp only [zAU,List.filterMap_cons,List.filterMap_nil,zzH,zzI,zzJ];(repeat (refine zAM _ rfl (fun w => (by go_simp;rfl)) ?_));refine zAS ?_;simp only [zAF,zAt,Act.put,zzG,zzE,zzF,zzA,zzB,zzC,zzD];(repeat (refine zAL (fun K hK => ?_);go_simp;first | (refine hK _ ?_;clear hK K) | (apply Exists.intro;refine ⟨fun ex => ?_,hK _ ?_⟩;(fail);clear hK K)));refine zAQ ?_;simp only [zAT,under,zAZ,and_true,List.nil_append,List.cons_append])
 refine ⟨fun e => ?_,fun e => ?_⟩
 ·go_simp
  refine (zM0 A.al S.lost.length A.cl i vs e.to (zAO sv e.below) lv hi ov (by omega)).mono ?_
  rintro _ _ ⟨⟨a',c',rfl,o⟩,b⟩
  exact ⟨b,a',c',rfl,o.base_le e.size⟩
 rintro v1 ⟨a7,c7,rfl,o7⟩
 simp only [Act.put,zzG,zzE,zzF]
 have heb:=e.below
 obtain ⟨w2,hV2⟩:∃ x:World,x=e.to:=⟨_,rfl⟩
 rw [← hV2] at heb o7 ⊢
 clear hV2 e
 have rv':=zAY.below zJ3 rv (by rw [zAJ];exact zA0 h.lt h.old heb)
 have hgb:g < w1.heap.size:=h.lt
 have hgbh:hd < w1.heap.size:=h.old
 have hw2:KeepG g w w2:=hw1.trans (KeepG.of h.lt heb)
 replace n0:=zAA heb n0
 replace ln:=Nat.lt_of_lt_of_le ln heb.size
 replace h:=h.below heb
 replace p4:=zAA heb p4
 replace hg:=h.lt
 have pf:=h.cells.frozen 4
 go_wp2
 refine bodyPost_end (results_none rfl _ _ _) rfl ⟨hw2.set 4 _,.inl ⟨zBy (by simp [errC,chain,hr]) rfl,rfl,⟨{ A with al:=a7,cl:=c7 },h.put (by simp [nxtC,zGf hi]) ?_⟩⟩⟩
 have L:=h.lists
 exact { L with lost:=zAI.own (o7.mask hgb hgbh) (rv'.cut hi),nl:=fun e => by subst e;exact zBY o7 }
theorem zLL (g:Nat) (S:BSt) (A:Adr) (an:Option Addr) (cn:Nat) (k:Int) (w:World) (h:StAt hd w g S A) (F:Few S) (hn:IntsAt (mask hd g w) an [k]) :
  Calls Tryz.prog 249 #[.pointer (some ⟨g,0,none⟩),.slice an 1 cn] w (zBA hd g S .strike [k] w):=by
 have hg:=h.lt
 have f_journal:=F.journal
 obtain ⟨bn,on,rfl,ln,n0⟩:=(hn.unmask hg h.old) 0 (by simp)
 simp at n0
 have ln0:=ln
 have hw0:=KeepG.refl hg
 have p8:=h.cells.cell 8
 simp at p8
 obtain ⟨r,hr⟩:∃ r,idxB k S.journal.length=r:=⟨_,rfl⟩
 have Hr:Hid ((decide (0≤k) && decide (k≤((S.journal.length:Int) - 1)))=r):=Lib.hid hr
 have iw_k:IntKind.i64.wrap ((S.journal.length:Int) - 1)=(S.journal.length:Int) - 1:=IntWalk.i64_in _ (by omega)
 cases r
 ·skip
  go_enter Tryz.func249,Tryz.ntmps249
  go_upto_region 0 with fail
  (refine zAC 11 (by kernel_rfl) (by kernel_rfl) ?_;simp only [zzA,zzB,zzC,zzD];(repeat (go_big_quiet_step (((go_at_call 181;refine zAH (zA6 k 0 _ false Hr _))))));refine wpQuiet_nil ?_;rintro _ ⟨ex,rfl⟩;have hex:=ex.below;have hexz:=ex.size;(try simp at hexz);(try (have hy0:w.heap.size < ex.to.heap.size:=by omega));(try (have hy1:w.heap.size + 1 < ex.to.heap.size:=by omega));(try (have hy2:w.heap.size + 2 < ex.to.heap.size:=by omega)))
  obtain ⟨w1,hX⟩:∃ x:World,x=ex.to:=⟨_,rfl⟩
  rw [← hX] at hex ⊢
  clear hX hexz
  have hw1:KeepG g w w1:=hw0.trans (KeepG.of h.lt hex)
  replace n0:=zAA hex n0
  replace ln:=Nat.lt_of_lt_of_le ln hex.size
  replace h:=h.below hex
  replace p8:=zAA hex p8
  replace hg:=h.lt
  clear hex
  go_wp2_with fail
  go_at_call 188
  refine (zAP 7 _).mono ?_
  rintro e _ ⟨rfl,rfl⟩
  exact ⟨rfl,.bad (zA1 (E:=7) (by simp [errC,chain,hr]) (by decide)) (by decide) hw1 h.blk⟩
 have hr0:=hr
 simp only [idxB,Bool.and_eq_true,decide_eq_true_eq] at hr0
 obtain ⟨i,rfl⟩:∃ i:Nat,k=i:=⟨k.toNat,by omega⟩
 have hi:i < S.journal.length:=by omega
 clear hr0
 go_enter Tryz.func249,Tryz.ntmps249
 go_upto_region 0 with fail
 (refine zAC 11 (by kernel_rfl) (by kernel_rfl) ?_;simp only [zzA,zzB,zzC,zzD];(repeat (go_big_quiet_step (((go_at_call 181;refine zAH (zA6 (i:Int) 0 _ true Hr _))))));refine wpQuiet_nil ?_;rintro _ ⟨ex,rfl⟩;have hex:=ex.below;have hexz:=ex.size;(try simp at hexz);(try (have hy0:w.heap.size < ex.to.heap.size:=by omega));(try (have hy1:w.heap.size + 1 < ex.to.heap.size:=by omega));(try (have hy2:w.heap.size + 2 < ex.to.heap.size:=by omega)))
 obtain ⟨w1,hX⟩:∃ x:World,x=ex.to:=⟨_,rfl⟩
 rw [← hX] at hex ⊢
 clear hX hexz
 have hw1:KeepG g w w1:=hw0.trans (KeepG.of h.lt hex)
 replace n0:=zAA hex n0
 replace ln:=Nat.lt_of_lt_of_le ln hex.size
 replace h:=h.below hex
 replace p8:=zAA hex p8
 replace hg:=h.lt
 clear hex
 go_wp2_with fail
 go_at_call 188
 refine (zA3 7 _).mono ?_
 rintro e _ ⟨rfl,rfl⟩
 obtain ⟨vs,rv,sv⟩:=h.lists.journal
 have lv:=rv.1
 have ov:=rv.one oneE (by omega)
 replace sv:=zAh h.lt h.old sv
 have nv:A.aj=none→S.journal.length=0∧A.cj=0:=fun e => ⟨by have q:=h.lists.journal;rw [e] at q;rw [q.none (by omega)];rfl,h.lists.nj e⟩
 go_upto_region 1 with fail
 (refine zAD 13 [] [13] 29 [true,true,true,true,true,true,true,true,true,false,true,true,true] [OwnV 182 3 w1.heap.size (S.journal.length - 1) (vs.take (i * 3) ++ vs.drop ((i + 1) * 3))] (by kernel_rfl) (by kernel_rfl) rfl (zAB (fun v w w' h hb => h.kept hb) zAR) ?_;simp only [zAU,List.filterMap_cons,List.filterMap_nil,zzH,zzI,zzJ];(repeat (refine zAM _ rfl (fun w => (by go_simp;rfl)) ?_));refine zAS ?_;simp only [zAF,zAt,Act.put,zzG,zzE,zzF,zzA,zzB,zzC,zzD];(repeat (refine zAL (fun K hK => ?_);go_simp;first | (refine hK _ ?_;clear hK K) | (apply Exists.intro;refine ⟨fun ex => ?_,hK _ ?_⟩;(fail);clear hK K)));refine zAQ ?_;simp only [zAT,under,zAZ,and_true,List.nil_append,List.cons_append])
 refine ⟨fun e => ?_,fun e => ?_⟩
 ·go_simp
  refine (zOA A.aj S.journal.length A.cj i vs e.to (zAO sv e.below) lv hi ov (by omega)).mono ?_
  rintro _ _ ⟨⟨a',c',rfl,o⟩,b⟩
  exact ⟨b,a',c',rfl,o.base_le e.size⟩
 rintro v1 ⟨a7,c7,rfl,o7⟩
 simp only [Act.put,zzG,zzE,zzF]
 have heb:=e.below
 obtain ⟨w2,hV2⟩:∃ x:World,x=e.to:=⟨_,rfl⟩
 rw [← hV2] at heb o7 ⊢
 clear hV2 e
 have rv':=zAY.below zL7 rv (by rw [zAJ];exact zA0 h.lt h.old heb)
 have hgb:g < w1.heap.size:=h.lt
 have hgbh:hd < w1.heap.size:=h.old
 have hw2:KeepG g w w2:=hw1.trans (KeepG.of h.lt heb)
 replace n0:=zAA heb n0
 replace ln:=Nat.lt_of_lt_of_le ln heb.size
 replace h:=h.below heb
 replace p8:=zAA heb p8
 replace hg:=h.lt
 have pf:=h.cells.frozen 8
 go_wp2
 refine bodyPost_end (results_none rfl _ _ _) rfl ⟨hw2.set 8 _,.inl ⟨zBy (by simp [errC,chain,hr]) rfl,rfl,⟨{ A with aj:=a7,cj:=c7 },h.put (by simp [nxtC,zGf hi]) ?_⟩⟩⟩
 have L:=h.lists
 exact { L with journal:=zAI.own (o7.mask hgb hgbh) (rv'.cut hi),nj:=fun e => by subst e;exact zBY o7 }
end Go.Proofs.YticjeianiahppaaGreatDoor
namespace Go.Proofs.YticjeianiahppaaGreatDoor
open Go.RowKit Go.Flow
variable {hd:Nat}
theorem zEO {S:BSt} {c:Cmd} {n:List Int} (h:errC S c n=0) (hx:zBB (nxtC S c n)=true):errL S c n=0:=by
 unfold errL;rw [if_pos h,hx];simp
theorem zFv {S:BSt} {c:Cmd} {n:List Int} (h:errC S c n=0) (ha:c.asks=true) (hx:¬ zBB (nxtC S c n)=true):errL S c n=9:=by
 unfold errL;rw [if_pos h,ha,Bool.eq_false_iff.2 hx];rfl
theorem zO6 (g:Nat) (S:BSt) (A:Adr) (an:Option Addr) (cn:Nat) (p:Int) (w:World) (h:StAt hd w g S A) (F:Few S) (hn:IntsAt (mask hd g w) an [p]) :
  Calls Tryz.prog 246 #[.pointer (some ⟨g,0,none⟩),.slice an 1 cn] w (zBA hd g S .wait [p] w):=by
 have hg:=h.lt
 obtain ⟨bn,on,rfl,ln,n0⟩:=(hn.unmask hg h.old) 0 (by simp)
 simp at n0
 have ln0:=ln
 have hw0:=KeepG.refl hg
 have p7:=h.cells.cell 7
 simp at p7
 obtain ⟨r,hr⟩:∃ r,betB p 0 30=r:=⟨_,rfl⟩
 have Hr:Hid ((decide (0≤p) && decide (p≤30))=r):=Lib.hid hr
 go_enter Tryz.func246,Tryz.ntmps246
 go_wp2_with fail
 go_at_call 181
 refine (zA6 p 0 30 r Hr _).mono ?_
 rintro e _ ⟨rfl,rfl⟩
 go_wp2_with fail
 go_at_call 188
 cases r
 ·refine (zAP 2 _).mono ?_
  rintro e _ ⟨rfl,rfl⟩
  exact ⟨rfl,.bad (zA1 (E:=2) (by simp [errC,chain,hr]) (by decide)) (by decide) hw0 h.blk⟩
 refine (zA3 2 _).mono ?_
 rintro e _ ⟨rfl,rfl⟩
 have pf:=h.cells.frozen 7
 go_upto_region 2 with fail
 have hs:=h.put (S':=nxtC S .wait [p]) (A':=A) (k:=7) (v:=.int .i64 p) rfl { h.lists with }
 have hwx:=hw0.set 7 (.int .i64 p)
 obtain ⟨X,hX⟩:∃ x:World,x=w.setCell ⟨g,7,none⟩ (.int .i64 p):=⟨_,rfl⟩
 rw [← hX] at hs hwx ⊢
 clear hX
 have Fx:=F.nxt .wait [p] (by simp [errC,chain,hr])
 go_wp2_with fail
 go_at_call 297
 refine (zCF g _ A _ hs Fx).mono ?_
 rintro e w9 ⟨hb9,he⟩
 have kx:=hwx.trans (KeepG.of hs.lt hb9)
 have sx:=hs.below hb9
 by_cases hx:zBB (nxtC S .wait [p])=true
 ·rw [if_pos hx] at he
  subst he
  go_wp2
  exact bodyPost_end (results_none rfl _ _ _) rfl ⟨kx,.inl ⟨zEO (by simp [errC,chain,hr]) hx,rfl,_,sx⟩⟩
 ·rw [if_neg hx] at he
  subst he
  exact ⟨rfl,.bad (zFv (by simp [errC,chain,hr]) rfl hx) (by decide) kx sx.blk⟩
theorem zO7 (g:Nat) (S:BSt) (A:Adr) (an:Option Addr) (cn:Nat) (hh:Int) (w:World) (h:StAt hd w g S A) (F:Few S) (hn:IntsAt (mask hd g w) an [hh]) :
  Calls Tryz.prog 242 #[.pointer (some ⟨g,0,none⟩),.slice an 1 cn] w (zBA hd g S .send [hh] w):=by
 have hg:=h.lt
 have f_sends:=F.sends
 obtain ⟨bn,on,rfl,ln,n0⟩:=(hn.unmask hg h.old) 0 (by simp)
 simp at n0
 have ln0:=ln
 have hw0:=KeepG.refl hg
 have p5:=h.cells.cell 5
 simp at p5
 obtain ⟨r,hr⟩:∃ r,betB hh 0 30=r:=⟨_,rfl⟩
 have Hr:Hid ((decide (0≤hh) && decide (hh≤30))=r):=Lib.hid hr
 obtain ⟨x,hx⟩:∃ x,S.post.sends.getD (S.post.sends.length - 1) 0=x:=⟨_,rfl⟩
 obtain ⟨q,hq⟩:∃ q,(decide (S.post.sends.length=0) || decide (x < hh))=q:=⟨_,rfl⟩
 have Hq:=Lib.hid hq
 have Hx:=Lib.hid hx
 have EC:Hid (errC S .send [hh]=chain [(r,2),(q,8),(decide (S.post.sends.length < 4),3)]):=Lib.hid (by show chain [(betB hh 0 30,2),(decide (S.post.sends.length=0) || decide (S.post.sends.getD (S.post.sends.length - 1) 0 < hh),8),(decide (S.post.sends.length < 4),3)]=_;rw [hr,hx,hq])
 clear hq hx
 go_enter Tryz.func242,Tryz.ntmps242
 go_wp2_with fail
 go_at_call 181
 refine (zA6 hh 0 30 r Hr _).mono ?_
 rintro e _ ⟨rfl,rfl⟩
 go_wp2_with fail
 go_at_call 188
 cases r
 ·refine (zAP 2 _).mono ?_
  rintro e _ ⟨rfl,rfl⟩
  exact ⟨rfl,.bad (zA1 (E:=2) (by simp [errC,chain,hr]) (by decide)) (by decide) hw0 h.blk⟩
 refine (zA3 2 _).mono ?_
 rintro e _ ⟨rfl,rfl⟩
 go_upto_region 2 with fail
 have step:∀ (q' : Bool) (W:World),q'=q→True:=fun _ _ _ => trivial
 by_cases h0:S.post.sends.length=0
 all_goals skip
 ·have hdz:((S.post.sends.length:Int) == 0)=true:=by simp [h0]
  have hz0:=Lib.hid h0
  have hqt:q=true:=by rw [← Hq.out,h0];rfl
  subst hqt
  clear h0
  go_upto_region 2 with fail
  (refine zAC 18 (by kernel_rfl) (by kernel_rfl) ?_;simp only [zzA,zzB,zzC,zzD];(repeat (go_big_quiet_step ((fail))));refine wpQuiet_nil ?_;rintro _ ⟨ex,rfl⟩;have hex:=ex.below;have hexz:=ex.size;(try simp at hexz);(try (have hy0:w.heap.size < ex.to.heap.size:=by omega));(try (have hy1:w.heap.size + 1 < ex.to.heap.size:=by omega));(try (have hy2:w.heap.size + 2 < ex.to.heap.size:=by omega)))
  obtain ⟨w1,hX⟩:∃ x:World,x=ex.to:=⟨_,rfl⟩
  rw [← hX] at hex ⊢
  clear hX hexz
  have hw1:KeepG g w w1:=hw0.trans (KeepG.of h.lt hex)
  replace n0:=zAA hex n0
  replace ln:=Nat.lt_of_lt_of_le ln hex.size
  replace h:=h.below hex
  replace p5:=zAA hex p5
  replace hg:=h.lt
  clear hex
  go_wp2_with fail
  go_at_call 188
  refine (zA3 8 _).mono ?_
  rintro e _ ⟨rfl,rfl⟩
  go_wp2_with fail
  go_at_call 188
  obtain ⟨q3,hq3⟩:∃ q,(decide ((S.post.sends.length:Int) < 4))=q:=⟨_,rfl⟩
  rw [hq3]
  cases q3
  ·refine (zAP 3 _).mono ?_
   rintro e _ ⟨rfl,rfl⟩
   exact ⟨rfl,.bad (zA1 (E:=3) (by simp at hq3;rw [EC.out];simp [chain];omega) (by decide)) (by decide) hw1 h.blk⟩
  refine (zA3 3 _).mono ?_
  rintro e _ ⟨rfl,rfl⟩
  replace hq3:(S.post.sends.length:Int) < 4:=by simpa using hq3
  obtain ⟨vs,rv,sv⟩:=h.lists.sends
  have lv:=rv.1
  have ov:=rv.one oneI (by omega)
  replace sv:=zAh h.lt h.old sv
  have nv:A.as_=none→S.post.sends.length=0∧A.cs=0:=fun e => ⟨by have q:=h.lists.sends;rw [e] at q;rw [q.none (by omega)];rfl,h.lists.ns e⟩
  go_upto_region 4 with fail
  (refine zAD 15 [] [15] 54 [true,true,true,true,true,true,true,true,true,true,false,true,true,true,true] [OwnV 3 1 w1.heap.size (S.post.sends.length + 1) (vs ++ [.int .i64 hh])] (by kernel_rfl) (by kernel_rfl) rfl (zAB (fun v w w' h hb => h.kept hb) zAR) ?_;simp only [zAU,List.filterMap_cons,List.filterMap_nil,zzH,zzI,zzJ];(repeat (refine zAM _ rfl (fun w => (by go_simp;rfl)) ?_));refine zAS ?_;simp only [zAF,zAt,Act.put,zzG,zzE,zzF,zzA,zzB,zzC,zzD];(repeat (refine zAL (fun K hK => ?_);go_simp;first | (refine hK _ ?_;clear hK K) | (apply Exists.intro;refine ⟨fun ex => ?_,hK _ ?_⟩;(fail);clear hK K)));refine zAQ ?_;simp only [zAT,under,zAZ,and_true,List.nil_append,List.cons_append])
  refine ⟨fun e => ?_,fun e => ?_⟩
  ·go_simp
   refine (zGw A.as_ S.post.sends.length A.cs vs e.to (zAO sv e.below) lv nv ov (by omega) hh).mono ?_
   rintro _ _ ⟨⟨a',c',rfl,o⟩,b⟩
   exact ⟨b,a',c',rfl,o.base_le e.size⟩
  rintro v1 ⟨a7,c7,rfl,o7⟩
  simp only [Act.put,zzG,zzE,zzF]
  have heb:=e.below
  obtain ⟨w2,hV2⟩:∃ x:World,x=e.to:=⟨_,rfl⟩
  rw [← hV2] at heb o7 ⊢
  clear hV2 e
  have rv':=zAY.below zH9 rv (by rw [zAJ];exact zA0 h.lt h.old heb)
  have hgb:g < w1.heap.size:=h.lt
  have hgbh:hd < w1.heap.size:=h.old
  have hw2:KeepG g w w2:=hw1.trans (KeepG.of h.lt heb)
  replace n0:=zAA heb n0
  replace ln:=Nat.lt_of_lt_of_le ln heb.size
  replace h:=h.below heb
  replace p5:=zAA heb p5
  replace hg:=h.lt
  have pf:=h.cells.frozen 5
  go_wp2
  refine bodyPost_end (results_none rfl _ _ _) rfl ⟨hw2.set 5 _,.inl ⟨zBy (by rw [EC.out];simp [chain];omega) rfl,rfl,⟨{ A with as_:=a7,cs:=c7 },h.put (by simp [nxtC]) ?_⟩⟩⟩
  have L:=h.lists
  exact { L with sends:=zAI.own (o7.mask hgb hgbh) (rv'.snoc rfl rfl),ns:=fun e => by subst e;exact zBY o7 }
 ·have hdz:((S.post.sends.length:Int) == 0)=false:=by rw [beq_eq_false_iff_ne];omega
  obtain ⟨m,hm⟩:∃ m,S.post.sends.length - 1=m:=⟨_,rfl⟩
  have hm2:m < S.post.sends.length:=by omega
  have hmI:(m:Int) < (S.post.sends.length:Int):=by omega
  have hm0:(0:Int)≤(m:Int):=by omega
  have iw:IntKind.i64.wrap ((S.post.sends.length:Int) - 1)=(m:Int):=by rw [IntWalk.i64_in _ (by omega)];omega
  obtain ⟨bs,os,has,lbs,cs0⟩:=(h.lists.unmask h.lt h.old).sends.atI m hm2
  rw [show S.post.sends.getD m 0=x by rw [← Hx.out,hm]] at cs0
  rw [has] at p5
  have Has:=Lib.hid has
  clear has
  have hqq:decide (x < hh)=q:=by rw [← Hq.out,decide_eq_false h0];rfl
  clear h0 hm
  go_upto_region 2 with fail
  (refine zAC 18 (by kernel_rfl) (by kernel_rfl) ?_;simp only [zzA,zzB,zzC,zzD];(repeat (go_big_quiet_step ((fail))));refine wpQuiet_nil ?_;rintro _ ⟨ex,rfl⟩;have hex:=ex.below;have hexz:=ex.size;(try simp at hexz);(try (have hy0:w.heap.size < ex.to.heap.size:=by omega));(try (have hy1:w.heap.size + 1 < ex.to.heap.size:=by omega));(try (have hy2:w.heap.size + 2 < ex.to.heap.size:=by omega)))
  obtain ⟨w1,hX⟩:∃ x:World,x=ex.to:=⟨_,rfl⟩
  rw [← hX] at hex ⊢
  clear hX hexz
  have hw1:KeepG g w w1:=hw0.trans (KeepG.of h.lt hex)
  replace n0:=zAA hex n0
  replace ln:=Nat.lt_of_lt_of_le ln hex.size
  replace cs0:=zAA hex cs0
  replace lbs:=Nat.lt_of_lt_of_le lbs hex.size
  replace h:=h.below hex
  replace p5:=zAA hex p5
  replace hg:=h.lt
  clear hex
  go_wp2_with fail
  go_at_call 188
  cases q
  ·refine (zAP 8 _).mono ?_
   rintro e _ ⟨rfl,rfl⟩
   exact ⟨rfl,.bad (zA1 (E:=8) (by rw [EC.out];rfl) (by decide)) (by decide) hw1 h.blk⟩
  refine (zA3 8 _).mono ?_
  rintro e _ ⟨rfl,rfl⟩
  rw [← Has.out] at p5
  go_wp2_with fail
  go_at_call 188
  obtain ⟨q3,hq3⟩:∃ q,(decide ((S.post.sends.length:Int) < 4))=q:=⟨_,rfl⟩
  rw [hq3]
  cases q3
  ·refine (zAP 3 _).mono ?_
   rintro e _ ⟨rfl,rfl⟩
   exact ⟨rfl,.bad (zA1 (E:=3) (by simp at hq3;rw [EC.out];simp [chain];omega) (by decide)) (by decide) hw1 h.blk⟩
  refine (zA3 3 _).mono ?_
  rintro e _ ⟨rfl,rfl⟩
  replace hq3:(S.post.sends.length:Int) < 4:=by simpa using hq3
  obtain ⟨vs,rv,sv⟩:=h.lists.sends
  have lv:=rv.1
  have ov:=rv.one oneI (by omega)
  replace sv:=zAh h.lt h.old sv
  have nv:A.as_=none→S.post.sends.length=0∧A.cs=0:=fun e => ⟨by have q:=h.lists.sends;rw [e] at q;rw [q.none (by omega)];rfl,h.lists.ns e⟩
  go_upto_region 4 with fail
  (refine zAD 15 [] [15] 54 [true,true,true,true,true,true,true,true,true,true,false,true,true,true,true] [OwnV 3 1 w1.heap.size (S.post.sends.length + 1) (vs ++ [.int .i64 hh])] (by kernel_rfl) (by kernel_rfl) rfl (zAB (fun v w w' h hb => h.kept hb) zAR) ?_;simp only [zAU,List.filterMap_cons,List.filterMap_nil,zzH,zzI,zzJ];(repeat (refine zAM _ rfl (fun w => (by go_simp;rfl)) ?_));refine zAS ?_;simp only [zAF,zAt,Act.put,zzG,zzE,zzF,zzA,zzB,zzC,zzD];(repeat (refine zAL (fun K hK => ?_);go_simp;first | (refine hK _ ?_;clear hK K) | (apply Exists.intro;refine ⟨fun ex => ?_,hK _ ?_⟩;(fail);clear hK K)));refine zAQ ?_;simp only [zAT,under,zAZ,and_true,List.nil_append,List.cons_append])
  refine ⟨fun e => ?_,fun e => ?_⟩
  ·go_simp
   refine (zGw A.as_ S.post.sends.length A.cs vs e.to (zAO sv e.below) lv nv ov (by omega) hh).mono ?_
   rintro _ _ ⟨⟨a',c',rfl,o⟩,b⟩
   exact ⟨b,a',c',rfl,o.base_le e.size⟩
  rintro v1 ⟨a7,c7,rfl,o7⟩
  simp only [Act.put,zzG,zzE,zzF]
  have heb:=e.below
  obtain ⟨w2,hV2⟩:∃ x:World,x=e.to:=⟨_,rfl⟩
  rw [← hV2] at heb o7 ⊢
  clear hV2 e
  have rv':=zAY.below zH9 rv (by rw [zAJ];exact zA0 h.lt h.old heb)
  have hgb:g < w1.heap.size:=h.lt
  have hgbh:hd < w1.heap.size:=h.old
  have hw2:KeepG g w w2:=hw1.trans (KeepG.of h.lt heb)
  replace n0:=zAA heb n0
  replace ln:=Nat.lt_of_lt_of_le ln heb.size
  replace cs0:=zAA heb cs0
  replace lbs:=Nat.lt_of_lt_of_le lbs heb.size
  replace h:=h.below heb
  replace p5:=zAA heb p5
  replace hg:=h.lt
  have pf:=h.cells.frozen 5
  go_wp2
  refine bodyPost_end (results_none rfl _ _ _) rfl ⟨hw2.set 5 _,.inl ⟨zBy (by rw [EC.out];simp [chain];omega) rfl,rfl,⟨{ A with as_:=a7,cs:=c7 },h.put (by simp [nxtC]) ?_⟩⟩⟩
  have L:=h.lists
  exact { L with sends:=zAI.own (o7.mask hgb hgbh) (rv'.snoc rfl rfl),ns:=fun e => by subst e;exact zBY o7 }
def entC (sk:Bool):Cmd:=if sk then .skipped else .came
theorem zMs (sk:Bool):(entC sk).asks=true:=by cases sk <;> rfl
theorem zOS (S:BSt) (sk:Bool) (n h:Int):errC S (entC sk) [n,h]=chain [(idxB n S.post.sends.length && decide (0 < S.post.routes.length),7),(betB h 0 100,2),(decide (S.journal.length < 8),3)]:=by cases sk <;> rfl
theorem zJs (S:BSt) (sk:Bool) (n h:Int):nxtC S (entC sk) [n,h]={ S with journal:=S.journal ++ [⟨n,h,sk⟩] }:=by cases sk <;> rfl
theorem zIL (sk:Bool) (g:Nat) (S:BSt) (A:Adr) (an:Option Addr) (cn:Nat) (n hh:Int) (w:World) (h:StAt hd w g S A) (F:Few S) (hn:IntsAt (mask hd g w) an [n,hh]) :
  Calls Tryz.prog 301 #[.pointer (some ⟨g,0,none⟩),.slice an 2 cn,.bool sk] w (zBA hd g S (entC sk) [n,hh] w):=by
 have hg:=h.lt
 have f_sends:=F.sends
 have f_routes:=F.routes
 have f_journal:=F.journal
 obtain ⟨bn,on,rfl,ln,n0⟩:=(hn.unmask hg h.old) 0 (by simp)
 obtain ⟨_,_,e_1,_,n1⟩:=(hn.unmask hg h.old) 1 (by simp)
 obtain ⟨rfl,rfl⟩:=zAe e_1
 simp at n0 n1
 have ln0:=ln
 have hw0:=KeepG.refl hg
 have p5:=h.cells.cell 5
 simp at p5
 have p6:=h.cells.cell 6
 simp at p6
 have p8:=h.cells.cell 8
 simp at p8
 obtain ⟨r1,hr1⟩:∃ r,idxB n S.post.sends.length=r:=⟨_,rfl⟩
 have Hr1:Hid ((decide (0≤n) && decide (n≤((S.post.sends.length:Int) - 1)))=r1):=Lib.hid hr1
 obtain ⟨r2,hr2⟩:∃ r,betB hh 0 100=r:=⟨_,rfl⟩
 have Hr2:Hid ((decide (0≤hh) && decide (hh≤100))=r2):=Lib.hid hr2
 have iw_n:IntKind.i64.wrap ((S.post.sends.length:Int) - 1)=(S.post.sends.length:Int) - 1:=IntWalk.i64_in _ (by omega)
 obtain ⟨q,hq⟩:∃ q,decide (0 < S.post.routes.length)=q:=⟨_,rfl⟩
 have EC:Hid (errC S (entC sk) [n,hh]=chain [(r1 && q,7),(r2,2),(decide (S.journal.length < 8),3)]):=Lib.hid (by rw [zOS,hr1,hr2,hq])
 cases r1
 ·skip
  go_enter Tryz.func301,Tryz.ntmps301
  go_upto_region 0 with fail
  (refine zAC 22 (by kernel_rfl) (by kernel_rfl) ?_;simp only [zzA,zzB,zzC,zzD];(repeat (go_big_quiet_step (((go_at_call 181;refine zAH (zA6 n 0 _ false Hr1 _))))));refine wpQuiet_nil ?_;rintro _ ⟨ex,rfl⟩;have hex:=ex.below;have hexz:=ex.size;(try simp at hexz);(try (have hy0:w.heap.size < ex.to.heap.size:=by omega));(try (have hy1:w.heap.size + 1 < ex.to.heap.size:=by omega));(try (have hy2:w.heap.size + 2 < ex.to.heap.size:=by omega)))
  obtain ⟨w1,hX⟩:∃ x:World,x=ex.to:=⟨_,rfl⟩
  rw [← hX] at hex ⊢
  clear hX hexz
  have hw1:KeepG g w w1:=hw0.trans (KeepG.of h.lt hex)
  replace n0:=zAA hex n0
  replace n1:=zAA hex n1
  replace ln:=Nat.lt_of_lt_of_le ln hex.size
  replace h:=h.below hex
  replace p5:=zAA hex p5
  replace p6:=zAA hex p6
  replace p8:=zAA hex p8
  replace hg:=h.lt
  clear hex
  go_wp2_with fail
  go_at_call 188
  refine (zAP 7 _).mono ?_
  rintro e _ ⟨rfl,rfl⟩
  exact ⟨rfl,.bad (zA1 (E:=7) (by rw [EC.out];rfl) (by decide)) (by decide) hw1 h.blk⟩
 go_enter Tryz.func301,Tryz.ntmps301
 go_upto_region 0 with fail
 (refine zAC 22 (by kernel_rfl) (by kernel_rfl) ?_;simp only [zzA,zzB,zzC,zzD];(repeat (go_big_quiet_step (((go_at_call 181;refine zAH (zA6 n 0 _ true Hr1 _))))));refine wpQuiet_nil ?_;rintro _ ⟨ex,rfl⟩;have hex:=ex.below;have hexz:=ex.size;(try simp at hexz);(try (have hy0:w.heap.size < ex.to.heap.size:=by omega));(try (have hy1:w.heap.size + 1 < ex.to.heap.size:=by omega));(try (have hy2:w.heap.size + 2 < ex.to.heap.size:=by omega)))
 obtain ⟨w1,hX⟩:∃ x:World,x=ex.to:=⟨_,rfl⟩
 rw [← hX] at hex ⊢
 clear hX hexz
 have hw1:KeepG g w w1:=hw0.trans (KeepG.of h.lt hex)
 replace n0:=zAA hex n0
 replace n1:=zAA hex n1
 replace ln:=Nat.lt_of_lt_of_le ln hex.size
 replace h:=h.below hex
 replace p5:=zAA hex p5
 replace p6:=zAA hex p6
 replace p8:=zAA hex p8
 replace hg:=h.lt
 clear hex
 go_wp2_with fail
 go_at_call 188
 cases q
 ·refine (zAP 7 _).mono ?_
  rintro e _ ⟨rfl,rfl⟩
  exact ⟨rfl,.bad (zA1 (E:=7) (by rw [EC.out];rfl) (by decide)) (by decide) hw1 h.blk⟩
 refine (zA3 7 _).mono ?_
 rintro e _ ⟨rfl,rfl⟩
 go_wp2_with fail
 go_at_call 181
 refine (zA6 hh 0 100 r2 Hr2 _).mono ?_
 rintro e _ ⟨rfl,rfl⟩
 go_wp2_with fail
 go_at_call 188
 cases r2
 ·refine (zAP 2 _).mono ?_
  rintro e _ ⟨rfl,rfl⟩
  exact ⟨rfl,.bad (zA1 (E:=2) (by rw [EC.out];rfl) (by decide)) (by decide) hw1 h.blk⟩
 refine (zA3 2 _).mono ?_
 rintro e _ ⟨rfl,rfl⟩
 go_wp2_with fail
 go_at_call 188
 obtain ⟨q3,hq3⟩:∃ q,(decide ((S.journal.length:Int) < 8))=q:=⟨_,rfl⟩
 rw [hq3]
 cases q3
 ·refine (zAP 3 _).mono ?_
  rintro e _ ⟨rfl,rfl⟩
  exact ⟨rfl,.bad (zA1 (E:=3) (by simp at hq3;rw [EC.out];simp [chain];omega) (by decide)) (by decide) hw1 h.blk⟩
 refine (zA3 3 _).mono ?_
 rintro e _ ⟨rfl,rfl⟩
 replace hq3:(S.journal.length:Int) < 8:=by simpa using hq3
 obtain ⟨vs,rv,sv⟩:=h.lists.journal
 have lv:=rv.1
 have ov:=rv.one oneE (by omega)
 replace sv:=zAh h.lt h.old sv
 have nv:A.aj=none→S.journal.length=0∧A.cj=0:=fun e => ⟨by have q:=h.lists.journal;rw [e] at q;rw [q.none (by omega)];rfl,h.lists.nj e⟩
 go_upto_region 3 with fail
 (refine zAD 18 [] [18] 62 [true,true,true,true,true,true,true,true,true,true,true,true,true,true,false,true,true,true] [OwnV 182 3 w1.heap.size (S.journal.length + 1) (vs ++ [.int .i64 n,.int .i64 hh,.bool sk])] (by kernel_rfl) (by kernel_rfl) rfl (zAB (fun v w w' h hb => h.kept hb) zAR) ?_;simp only [zAU,List.filterMap_cons,List.filterMap_nil,zzH,zzI,zzJ];(repeat (refine zAM _ rfl (fun w => (by go_simp;rfl)) ?_));refine zAS ?_;simp only [zAF,zAt,Act.put,zzG,zzE,zzF,zzA,zzB,zzC,zzD];(repeat (refine zAL (fun K hK => ?_);go_simp;first | (refine hK _ ?_;clear hK K) | (apply Exists.intro;refine ⟨fun ex => ?_,hK _ ?_⟩;(fail);clear hK K)));refine zAQ ?_;simp only [zAT,under,zAZ,and_true,List.nil_append,List.cons_append])
 refine ⟨fun e => ?_,fun e => ?_⟩
 ·go_simp
  refine (zPO A.aj S.journal.length A.cj vs e.to (zAO sv e.below) lv nv ov (by omega) n hh sk).mono ?_
  rintro _ _ ⟨⟨a',c',rfl,o⟩,b⟩
  exact ⟨b,a',c',rfl,o.base_le e.size⟩
 rintro v1 ⟨a7,c7,rfl,o7⟩
 simp only [Act.put,zzG,zzE,zzF]
 have heb:=e.below
 obtain ⟨w2,hV2⟩:∃ x:World,x=e.to:=⟨_,rfl⟩
 rw [← hV2] at heb o7 ⊢
 clear hV2 e
 have rv':=zAY.below zL7 rv (by rw [zAJ];exact zA0 h.lt h.old heb)
 have hgb:g < w1.heap.size:=h.lt
 have hgbh:hd < w1.heap.size:=h.old
 have hw2:KeepG g w w2:=hw1.trans (KeepG.of h.lt heb)
 replace n0:=zAA heb n0
 replace n1:=zAA heb n1
 replace ln:=Nat.lt_of_lt_of_le ln heb.size
 replace h:=h.below heb
 replace p5:=zAA heb p5
 replace p6:=zAA heb p6
 replace p8:=zAA heb p8
 replace hg:=h.lt
 have pf:=h.cells.frozen 8
 have EZ:errC S (entC sk) [n,hh]=0:=by rw [EC.out];simp [chain];omega
 have Fx:=F.nxt (entC sk) [n,hh] EZ
 have HZ:=Lib.hid EZ
 clear EZ
 go_upto_region 4 with fail
 have hs:StAt hd (w2.setCell ⟨g,8,none⟩ (.slice a7 (S.journal.length + 1) c7)) g (nxtC S (entC sk) [n,hh]) { A with aj:=a7,cj:=c7 }:=h.put (by rw [zJs];simp) (by
  rw [zJs]
  have L:=h.lists
  exact { L with journal:=zAI.own (o7.mask hgb hgbh) (rv'.snoc rfl rfl),nj:=fun e => by subst e;exact zBY o7 })
 have hwx:=hw2.set 8 (.slice a7 (S.journal.length + 1) c7)
 obtain ⟨X,hX⟩:∃ x:World,x=w2.setCell ⟨g,8,none⟩ (.slice a7 (S.journal.length + 1) c7):=⟨_,rfl⟩
 rw [← hX] at hs hwx ⊢
 clear hX
 go_wp2_with fail
 go_at_call 297
 refine (zCF g _ { A with aj:=a7,cj:=c7 } _ hs Fx).mono ?_
 rintro e w9 ⟨hb9,he⟩
 have kx:=hwx.trans (KeepG.of hs.lt hb9)
 have sx:=hs.below hb9
 by_cases hx:zBB (nxtC S (entC sk) [n,hh])=true
 ·rw [if_pos hx] at he
  subst he
  go_wp2
  exact bodyPost_end (results_none rfl _ _ _) rfl ⟨kx,.inl ⟨zEO HZ.out hx,rfl,_,sx⟩⟩
 ·rw [if_neg hx] at he
  subst he
  exact ⟨rfl,.bad (zFv HZ.out (zMs sk) hx) (by decide) kx sx.blk⟩
theorem zOb (g:Nat) (S:BSt) (A:Adr) (an:Option Addr) (cn:Nat) (n hh:Int) (w:World) (h:StAt hd w g S A) (F:Few S) (hn:IntsAt (mask hd g w) an [n,hh]) :
  Calls Tryz.prog 247 #[.pointer (some ⟨g,0,none⟩),.slice an 2 cn] w (zBA hd g S .came [n,hh] w):=by
 go_enter Tryz.func247,Tryz.ntmps247
 go_wp2_with fail
 go_at_call 301
 refine (zIL false g S A an cn n hh w h F hn).mono ?_
 rintro e w1 ⟨k,hp⟩
 rcases hp with ⟨h0,rfl,hs⟩ | ⟨h0,rfl,hs⟩
 ·go_wp2
  exact bodyPost_end (results_none rfl _ _ _) rfl ⟨k,.inl ⟨h0,rfl,hs⟩⟩
 ·exact ⟨rfl,k,.inr ⟨h0,rfl,hs⟩⟩
theorem zJR (g:Nat) (S:BSt) (A:Adr) (an:Option Addr) (cn:Nat) (n hh:Int) (w:World) (h:StAt hd w g S A) (F:Few S) (hn:IntsAt (mask hd g w) an [n,hh]) :
  Calls Tryz.prog 248 #[.pointer (some ⟨g,0,none⟩),.slice an 2 cn] w (zBA hd g S .skipped [n,hh] w):=by
 go_enter Tryz.func248,Tryz.ntmps248
 go_wp2_with fail
 go_at_call 301
 refine (zIL true g S A an cn n hh w h F hn).mono ?_
 rintro e w1 ⟨k,hp⟩
 rcases hp with ⟨h0,rfl,hs⟩ | ⟨h0,rfl,hs⟩
 ·go_wp2
  exact bodyPost_end (results_none rfl _ _ _) rfl ⟨k,.inl ⟨h0,rfl,hs⟩⟩
 ·exact ⟨rfl,k,.inr ⟨h0,rfl,hs⟩⟩
end Go.Proofs.YticjeianiahppaaGreatDoor
