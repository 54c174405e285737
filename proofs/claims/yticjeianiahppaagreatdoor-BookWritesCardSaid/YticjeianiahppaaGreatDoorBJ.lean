/- The session book: contracts of the program and of the laws' helpers, joined (Kn, Kl, Ko). -/
import Derived.Test.YticjeianiahppaaGreatDoorBH
import Derived.RegionDies
set_option linter.unusedVariables false
set_option linter.unusedSimpArgs false
set_option linter.unnecessarySimpa false
set_option maxRecDepth 100000
set_option maxHeartbeats 40000000
namespace Go.Proofs.YticjeianiahppaaGreatDoor
open Go.RowKit Go.Flow
variable {hd:Nat}
theorem zMN {g n:Nat} {w w' : World} (h:Below n w w'):Below n (mask hd g w) (mask hd g w') :=
 ⟨h.os,h.tape,h.output,by rw [zAJ,zAJ];exact h.size,fun k hk => by
  rw [zBS,zBS,h.block k hk]⟩
theorem KeepG.mh {g:Nat} {w w' : World} (h:KeepG g w w'):Below (mask hd g w).heap.size (mask hd g w) (mask hd g w'):=by
 rw [zAJ]
 refine ⟨h.below.os,h.below.tape,h.below.output,by rw [zAJ,zAJ];exact h.size,fun k hk => ?_⟩
 by_cases e:k≤g
 ·rw [zAj (.inl e) hk,zAj (.inl e) (Nat.lt_of_lt_of_le hk h.size)]
 ·have:=h.below.block k hk
  rw [zAG w (by omega),zAG w' (by omega)] at this
  rw [zBS,zBS,this]
theorem zGH {P:Program} {Q:Exit→Act→World→Prop} {id:Nat} {a:Act} {w:World} {l:List Oper} (n:Nat) (js:List Nat) (sz:Nat) (mask:List Bool) (Rs:List (Value→World→Prop)) (hm:P.follows .mixedOrders=true)
  (hB:zJ6 l n [] js sz mask=true) (hS:a.tmps.size=sz) (hR0:∀ R ∈ Rs,∀ v w w',R v w→Below w.heap.size w w'→R v w')
  (h:wpQB P l.toArray w (fun a' => zAT P l.toArray w mask (l.take n) Rs [] a'∧∀ e:Ext w,zAZ (fun a'' => wpList P l.toArray Q (zAU l js) a'' e.to) e.to mask (l.take n) Rs a') (zAF mask (l.take n)) a) :
  (Code.region id l.toArray true).wp P Q a w:=by
 simp only [zJ6,Bool.and_eq_true,decide_eq_true_eq] at hB
 obtain ⟨⟨⟨⟨⟨h1,h2⟩,h3⟩,h4⟩,h5⟩,h6⟩:=hB
 have ok:=zMF h1
 refine wp_region_any hm ?_
 have hsz:l.toArray.size=n + js.length:=by simpa using h4
 rw [hsz]
 refine zGQ n [] js sz mask Rs _ _ ⟨⟨_,(Below.refl _ w).drew⟩,rfl⟩ h1 (by simpa using hsz.symm) (fun k hk => by rw [getD_replicate_false];rfl) (fun f hf => by cases hf) ?_ hS h6 hR0 h
 intro j oj hoj hl e he hb
 simp only [getD_replicate_false] at hl
 cases hl
theorem OwnL.setV {E:TypeId} {size base:Nat} {w:World} {g c n:Nat} {xs:List Value} (h:OwnL E size base w (some ⟨g,0,none⟩) c n xs) {j:Nat} (hj:j < xs.length) (v:Value):OwnL E size base (w.setCell ⟨g,j,none⟩ v) (some ⟨g,0,none⟩) c n (xs.set j v):=by
 refine ⟨by rw [List.length_set];exact h.1,?_⟩
 rcases h.2 with ⟨h1,_⟩ | ⟨g',cap,cur,hv,hbg,hg,hnc,hcm,hcs,ht⟩
 ·cases h1
 ·have e1:g=g':=by simp at hv;exact hv.1
  subst e1
  have hC:Cells w g cur E:=hg
  refine .inr ⟨g,cap,_,hv,hbg,hC.set j v,hnc,hcm,by simp;exact hcs,?_⟩
  rw [Array.toList_setIfInBounds,List.take_set,ht]
theorem OwnL.at_ {E:TypeId} {size base:Nat} {w:World} {g c n:Nat} {xs:List Value} (h:OwnL E size base w (some ⟨g,0,none⟩) c n xs) {j:Nat} {u:Value} (hu:xs[j]?=some u):w.cell? ⟨g,j,none⟩=some u:=by
 obtain ⟨b,off,e,hc⟩:=SrcAt.own h j u hu
 obtain ⟨rfl,rfl⟩:=zAe e.symm
 rwa [Nat.zero_add] at hc
def zBN (S:BSt) (i:Nat) (ls:List Cps.Leg):BSt:={ S with post:={ S.post with routes:=S.post.routes.modify i fun x => ⟨ls,x.lossy⟩ } }
def zH0 (hd g:Nat) (S' : BSt) (w:World) (e:Ending) (w' : World):Prop:=KeepG g w w'∧(∃ A',StAt hd w' g S' A')∧e=if zBB S'=true then .returned (.tuple #[]) else refusal 9
theorem zH0.mk {g:Nat} {S' : BSt} {w w' : World} {e:Ending} (k:KeepG g w w') {A' : Adr} (s:StAt hd w' g S' A') (he:e=if zBB S'=true then .returned (.tuple #[]) else refusal 9):zH0 hd g S' w e w':=⟨k,⟨A',s⟩,he⟩
theorem zJj (g:Nat) (S:BSt) (A:Adr) (i:Nat) (al:Option Addr) (cl:Nat) (ls:List Cps.Leg) (w:World) (h:StAt hd w g S A) (F:Few S) (F' : Few (zBN S i ls)) (hi:i < S.post.routes.length) (hl:zAI 3 RL (mask hd g w) al ls) (nl:al=none→cl=0) :
  Calls Tryz.prog 298 #[.pointer (some ⟨g,0,none⟩),.int .i64 (i:Int),.slice al ls.length cl] w (zH0 hd g (zBN S i ls) w):=by
 have hg:=h.lt
 have f_routes:=F.routes
 have p6:=h.cells.cell 6
 simp at p6
 have pf:=h.cells.frozen 6
 obtain ⟨vs,rv,sv⟩:=h.lists.routes
 have lv:=rv.1
 have ov:=rv.one oneR (by omega)
 replace sv:=zAh h.lt h.old sv
 have nv:A.ar=none→S.post.routes.length=0∧A.cr=0:=fun e => ⟨by have q:=h.lists.routes;rw [e] at q;rw [q.none (by omega)];rfl,h.lists.nr e⟩
 have hiI:(i:Int) < (S.post.routes.length:Int):=by omega
 have hi0:(0:Int)≤(i:Int):=by omega
 go_enter Tryz.func298,Tryz.ntmps298
 go_wp2_with fail
 go_at_call 143
 refine (zEf A.ar S.post.routes.length A.cr vs w sv lv nv ov (by omega)).mono ?_
 rintro e w1 ⟨⟨a7,c7,rfl,o7⟩,hb1⟩
 obtain ⟨gr,rfl⟩:∃ gr,a7=some ⟨gr,0,none⟩:=by
  rcases o7.form with ⟨_,_,h,_⟩ | ⟨g,h,_⟩
  ·omega
  ·exact ⟨g,h⟩
 have h1:=h.below hb1
 have k1:=KeepG.of hg hb1
 have rv1:=zAY.below zJ2 rv (by rw [zAJ];exact zA0 h.lt h.old hb1)
 have hl1:=hl.below zCx (by rw [zAJ];exact zA0 h.lt h.old hb1)
 obtain ⟨hcn,hcm,hgr,hgl⟩:=o7.capped
 have q6:=h1.cells.cell 6
 have qf:=h1.cells.frozen 6
 have lg1:=h1.lt
 simp at q6
 have hne:g≠gr:=by omega
 go_upto_region 1 with fail
 obtain ⟨w2,hw2⟩:∃ x:World,x=w1.setCell ⟨g,6,none⟩ (.slice (some ⟨gr,0,none⟩) S.post.routes.length c7):=⟨_,rfl⟩
 have k2:KeepG g w w2:=by rw [hw2];exact k1.set 6 _
 have o2:OwnL 150 2 w.heap.size w2 (some ⟨gr,0,none⟩) c7 S.post.routes.length vs:=by rw [hw2];exact zDL o7 hne _
 have C2:Cells w2 g (zAW S { A with ar:=some ⟨gr,0,none⟩,cr:=c7 }) 162:=by rw [hw2];exact h1.cells.set 6 _
 have m2:mask hd g w2=mask hd g w1:=by rw [hw2,zEH]
 have gr2:gr < w2.heap.size:=(o2.capped).2.2.2
 rw [← hw2]
 clear hw2
 have r6:=C2.cell 6
 simp at r6
 obtain ⟨u,hu⟩:∃ u,vs[i * 2]?=some u:=⟨_,List.getElem?_eq_getElem (by omega)⟩
 have cu:=o2.at_ hu
 have fu:=(o2.room (j:=i * 2) (by omega)).2
 have lg2:=C2.lt
 go_upto_region 2 with fail
 obtain ⟨w3,hw3⟩:∃ x:World,x=w2.setCell ⟨gr,i * 2,none⟩ (.slice al ls.length cl):=⟨_,rfl⟩
 have k3:KeepG g w w3:=by rw [hw3];exact k2.set_new hgr _
 have o3:OwnL 150 2 w.heap.size w3 (some ⟨gr,0,none⟩) c7 S.post.routes.length (vs.set (i * 2) (.slice al ls.length cl)):=by rw [hw3];exact o2.setV (by omega) _
 have C3:Cells w3 g (zAW S { A with ar:=some ⟨gr,0,none⟩,cr:=c7 }) 162:=by rw [hw3];exact C2.other hne _ _
 have b3:Below w.heap.size (mask hd g w1) (mask hd g w3):=by rw [← m2,hw3];exact zMN ((Below.refl _ _).setCell (p:=⟨gr,i * 2,none⟩) hgr _)
 rw [← hw3]
 clear hw3
 have L3:=h.lists.below k3.mh
 have rv3:=zAY.below zJ2 rv k3.mh
 have hl3:=hl.below zCx k3.mh
 have rp:zAY 2 RR (mask hd g w3) (vs.set (i * 2) (.slice al ls.length cl)) (S.post.routes.modify i fun x => ⟨ls,x.lossy⟩):=by
  refine rv3.put (by rw [List.length_set]) (fun j hj => by rw [List.getElem?_set_ne (by omega)]) fun hk => ?_
  obtain ⟨a0,c0,e0,_⟩:=rv3.2 i hk
  refine ⟨al,cl,?_,hl3,nl⟩
  rw [List.drop_set,if_neg (by omega),Nat.sub_self,List.take_set,e0]
  rfl
 have hs:StAt hd w3 g (zBN S i ls) { A with ar:=some ⟨gr,0,none⟩,cr:=c7 }:=by
  refine ⟨?_,{ L3 with routes:=zAI.own (o3.mask hg (by have:=h.old;omega)) rp,nr:=fun e => by cases e },Nat.lt_of_lt_of_le h.old k3.size⟩
  have e:zAW (zBN S i ls) { A with ar:=some ⟨gr,0,none⟩,cr:=c7 }=zAW S { A with ar:=some ⟨gr,0,none⟩,cr:=c7 }:=by
   simp [zBN]
  rw [e];exact C3
 clear L3 rv3 hl3 rp o3 C3 b3 cu fu hu o2 C2 r6 q6 rv rv1 hl1 sv ov nv p6 pf qf
 go_wp2_with fail
 go_at_call 297
 refine (zCF g _ { A with ar:=some ⟨gr,0,none⟩,cr:=c7 } _ hs F').mono ?_
 rintro e w9 ⟨hb9,he⟩
 have kx:=k3.trans (KeepG.of hs.lt hb9)
 have sx:=hs.below hb9
 by_cases hx:zBB (zBN S i ls)=true
 ·have he2:=he
  rw [if_pos hx] at he2
  subst he2
  go_wp2
  exact bodyPost_end (results_none rfl _ _ _) rfl (.mk kx sx he)
 ·have he2:=he
  rw [if_neg hx] at he2
  subst he2
  exact ⟨rfl,.mk kx sx he⟩
end Go.Proofs.YticjeianiahppaaGreatDoor
namespace Go.Proofs.YticjeianiahppaaGreatDoor
open Go.RowKit Go.Flow
variable {hd:Nat}
def RtV (B:Nat) (lo hi:Int) (b:Bool) (v:Value) (w:World):Prop:=∃ g1,v=.agg #[.slice (some ⟨g1,0,none⟩) 1 1,.bool b]∧B≤g1∧Cells w g1 #[.int .i64 lo,.int .i64 hi,.slice none 0 0] 147
theorem RtV.kept {B:Nat} {lo hi:Int} {b:Bool} {v:Value} {w w' : World} (h:RtV B lo hi b v w) (hb:Below w.heap.size w w'):RtV B lo hi b v w':=let ⟨g1,h1,h2,h3⟩:=h;⟨g1,h1,h2,h3.below hb⟩
def RtO (B n:Nat) (vs:List Value) (lo hi:Int) (b:Bool) (v:Value) (w:World):Prop:=∃ g1,OwnV 150 2 B n (vs ++ [.slice (some ⟨g1,0,none⟩) 1 1,.bool b]) v w∧B≤g1∧Cells w g1 #[.int .i64 lo,.int .i64 hi,.slice none 0 0] 147
theorem RtO.kept {B n:Nat} {vs:List Value} {lo hi:Int} {b:Bool} {v:Value} {w w' : World} (h:RtO B n vs lo hi b v w) (hb:Below w.heap.size w w'):RtO B n vs lo hi b v w':=let ⟨g1,h1,h2,h3⟩:=h;⟨g1,h1.kept hb,h2,h3.below hb⟩
theorem zNT (g:Nat) (S:BSt) (A:Adr) (an:Option Addr) (cn:Nat) (y lo hi:Int) (w:World) (h:StAt hd w g S A) (F:Few S) (hn:IntsAt (mask hd g w) an [y,lo,hi]) :
  Calls Tryz.prog 243 #[.pointer (some ⟨g,0,none⟩),.slice an 3 cn] w (zBA hd g S .route [y,lo,hi] w):=by
 have hg:=h.lt
 have f_routes:=F.routes
 obtain ⟨bn,on,rfl,ln,n0⟩:=(hn.unmask hg h.old) 0 (by simp)
 obtain ⟨_,_,e_1,_,n1⟩:=(hn.unmask hg h.old) 1 (by simp)
 obtain ⟨rfl,rfl⟩:=zAe e_1
 obtain ⟨_,_,e_2,_,n2⟩:=(hn.unmask hg h.old) 2 (by simp)
 obtain ⟨rfl,rfl⟩:=zAe e_2
 simp at n0 n1 n2
 have ln0:=ln
 have hw0:=KeepG.refl hg
 have p6:=h.cells.cell 6
 simp at p6
 by_cases hsp:zCJ lo hi 6=true
 rotate_left
 ·replace hsp:zCJ lo hi 6=false:=by simpa using hsp
  go_enter Tryz.func243,Tryz.ntmps243
  go_upto_region 0 with fail
  go_region_dies
  all_goals
   go_at_call 295
   refine (zGn lo hi 6 hsp _).mono ?_
   rintro e w9 ⟨rfl,hb9⟩
   have hbb:Below w.heap.size w w9:=by exact zzL
   exact ⟨rfl,.bad (zA1 (E:=2) (by simp [errC,chain,hsp]) (by decide)) (by decide) (KeepG.of hg hbb) (h.below hbb).blk⟩
 obtain ⟨b,hb⟩:∃ b,(y != 0)=b:=⟨_,rfl⟩
 have hbd:decide (y≠0)=b:=by rw [← hb];cases h:(y != 0) <;> simpa using h
 go_enter Tryz.func243,Tryz.ntmps243
 go_upto_region 0 with fail
 (refine zAD 9 [] [9] 43 [true,true,true,true,true,true,true,true,false] [PtrV w.heap.size #[.int .i64 0,.int .i64 0,.slice none 0 0] 147] (by kernel_rfl) (by kernel_rfl) rfl (zAB (fun v w w' h hb => h.kept hb) zAR) ?_;simp only [zAU,List.filterMap_cons,List.filterMap_nil,zzH,zzI,zzJ];(repeat (refine zAM _ rfl (fun w => (by go_simp;rfl)) ?_));refine zAS ?_;simp only [zAF,zAt,Act.put,zzG,zzE,zzF,zzA,zzB,zzC,zzD];(repeat (refine zAL (fun K hK => ?_);go_simp;first | (refine hK _ ?_;clear hK K) | (apply Exists.intro;refine ⟨fun ex => ?_,hK _ ?_⟩;((go_at_call 295;exact zId lo hi 6 hsp _));clear hK K)));refine zAQ ?_;simp only [zAT,under,zAZ,and_true,List.nil_append,List.cons_append])
 refine ⟨?_,?_⟩
 ·intro e
  go_simp
  exact ⟨(Below.refl _ _).alloc (Nat.le_refl _) _,e.to.heap.size,rfl,e.size,Cells.new _ _ _⟩
 intro e
 rintro v1 ⟨B1,rfl,lB1,CB1⟩
 simp only [Act.put,zzG,zzE,zzF]
 have heb:=e.below
 obtain ⟨V,hV⟩:∃ x:World,x=e.to:=⟨_,rfl⟩
 rw [← hV] at heb CB1 ⊢
 clear hV e
 have z0:=CB1.cell 0
 have y0:=CB1.frozen 0
 have z1:=CB1.cell 1
 have y1:=CB1.frozen 1
 have z2:=CB1.cell 2
 have y2:=CB1.frozen 2
 have lz:=CB1.lt
 simp at z0 z1 z2
 go_upto_region 1 with fail
 obtain ⟨w1,hV9⟩:∃ x:World,x=((V.setCell ⟨B1,0,none⟩ (.int .i64 lo)).setCell ⟨B1,1,none⟩ (.int .i64 hi)).setCell ⟨B1,2,none⟩ (.slice none 0 0):=⟨_,rfl⟩
 have hb9:Below w.heap.size w w1:=by rw [hV9];exact ((heb.setCell (p:=⟨B1,0,none⟩) lB1 _).setCell (p:=⟨B1,1,none⟩) lB1 _).setCell (p:=⟨B1,2,none⟩) lB1 _
 replace CB1:Cells w1 B1 #[.int .i64 lo,.int .i64 hi,.slice none 0 0] 147:=by rw [hV9];exact ((CB1.set 0 _).set 1 _).set 2 _
 rw [← hV9]
 clear hV9 z0 y0 z1 y1 z2 y2 lz heb
 have hw1:KeepG g w w1:=hw0.trans (KeepG.of h.lt hb9)
 replace n0:=zAA hb9 n0
 replace n1:=zAA hb9 n1
 replace n2:=zAA hb9 n2
 replace ln:=Nat.lt_of_lt_of_le ln hb9.size
 replace h:=h.below hb9
 replace p6:=zAA hb9 p6
 replace hg:=h.lt
 go_wp2_with fail
 go_at_call 188
 obtain ⟨q3,hq3⟩:∃ q,(decide ((S.post.routes.length:Int) < 3))=q:=⟨_,rfl⟩
 rw [hq3]
 cases q3
 ·refine (zAP 3 _).mono ?_
  rintro e _ ⟨rfl,rfl⟩
  exact ⟨rfl,.bad (zA1 (E:=3) (by simp at hq3;simp [errC,chain,hsp];omega) (by decide)) (by decide) hw1 h.blk⟩
 refine (zA3 3 _).mono ?_
 rintro e _ ⟨rfl,rfl⟩
 replace hq3:(S.post.routes.length:Int) < 3:=by simpa using hq3
 have x0:=CB1.cell 0
 have x1:=CB1.cell 1
 have x2:=CB1.cell 2
 have lx:=CB1.lt
 simp at x0 x1 x2
 obtain ⟨vs,rv,sv⟩:=h.lists.routes
 have lv:=rv.1
 have ov:=rv.one oneR (by omega)
 replace sv:=zAh h.lt h.old sv
 have nv:A.ar=none→S.post.routes.length=0∧A.cr=0:=fun e => ⟨by have q:=h.lists.routes;rw [e] at q;rw [q.none (by omega)];rfl,h.lists.nr e⟩
 go_upto_region 2 with fail
 (refine zAD 19 [] [19] 43 [true,true,true,true,true,true,true,true,false,true,true,true,true,false,false,true,true,true,true] [LitV w1.heap.size 1 #[.int .i64 lo,.int .i64 hi,.slice none 0 0] 147,RtV w1.heap.size lo hi b,RtO w1.heap.size (S.post.routes.length + 1) vs lo hi b] (by kernel_rfl) (by kernel_rfl) rfl (zAB (fun v w w' h hb => h.kept hb) (zAB (fun v w w' h hb => h.kept hb) (zAB (fun v w w' h hb => h.kept hb) zAR))) ?_;simp only [zAU,List.filterMap_cons,List.filterMap_nil,zzH,zzI,zzJ];(repeat (refine zAM _ rfl (fun w => (by go_simp;rfl)) ?_));refine zAS ?_;simp only [zAF,zAt,Act.put,zzG,zzE,zzF,zzA,zzB,zzC,zzD];(repeat (refine zAL (fun K hK => ?_);go_simp;first | (refine hK _ ?_;clear hK K) | (apply Exists.intro;refine ⟨fun ex => ?_,hK _ ?_⟩;(fail);clear hK K)));refine zAQ ?_;simp only [zAT,under,zAZ,and_true,List.nil_append,List.cons_append])
 refine ⟨⟨?_,?_,?_⟩,?_⟩
 ·intro e
  go_simp
  exact ⟨(Below.refl _ _).alloc (Nat.le_refl _) _,e.to.heap.size,rfl,e.size,Cells.new _ _ _⟩
 ·intro e v1 h1
  obtain ⟨g1,rfl,l1,c1⟩:=h1 (by kernel_rfl)
  go_simp
  exact ⟨Below.refl _ _,g1,rfl,l1,c1⟩
 ·intro e v1 _ v2 h2
  obtain ⟨g1,rfl,l1,c1⟩:=h2 (by kernel_rfl)
  go_simp
  refine (zMK A.ar S.post.routes.length A.cr vs e.to (zAO sv e.below) lv nv ov (by omega) (some ⟨g1,0,none⟩) 1 1 b).mono ?_
  rintro _ _ ⟨⟨a',c',rfl,o⟩,b⟩
  exact ⟨b,g1,⟨a',c',rfl,o.base_le e.size⟩,l1,c1.below b⟩
 intro e
 rintro v1 - v2 - v3 ⟨g1,⟨a7,c7,rfl,o7⟩,l1,c1⟩
 simp only [Act.put,zzG,zzE,zzF]
 have heb:=e.below
 obtain ⟨w2,hV2⟩:∃ x:World,x=e.to:=⟨_,rfl⟩
 rw [← hV2] at heb o7 c1 ⊢
 clear hV2 e
 have rv':=zAY.below zJ2 rv (by rw [zAJ];exact zA0 h.lt h.old heb)
 have hgb:g < w1.heap.size:=h.lt
 have hgbh:hd < w1.heap.size:=h.old
 have hw2:KeepG g w w2:=hw1.trans (KeepG.of h.lt heb)
 replace n0:=zAA heb n0
 replace n1:=zAA heb n1
 replace n2:=zAA heb n2
 replace ln:=Nat.lt_of_lt_of_le ln heb.size
 replace CB1:=CB1.below heb
 replace h:=h.below heb
 replace p6:=zAA heb p6
 replace hg:=h.lt
 have pf:=h.cells.frozen 6
 have EZ:errC S .route [y,lo,hi]=0:=by simp [errC,chain,hsp];omega
 have Fx:=F.nxt .route [y,lo,hi] EZ
 have HZ:=Lib.hid EZ
 have g1n:g1≠g:=by omega
 clear EZ
 go_upto_region 3 with fail
 have hs:StAt hd (w2.setCell ⟨g,6,none⟩ (.slice a7 (S.post.routes.length + 1) c7)) g (nxtC S .route [y,lo,hi]) { A with ar:=a7,cr:=c7 }:=h.put (by simp [nxtC]) (by
  have L:=h.lists
  refine { L with routes:=zAI.own (o7.mask hgb hgbh) (rv'.snoc ⟨some ⟨g1,0,none⟩,1,by show _=[_,Value.bool (decide (y≠0))];rw [hbd];rfl,?_,fun e => by cases e⟩ rfl),nr:=fun e => by subst e;exact zBY o7 }
  exact zFl (by omega) fun k hk => by
   obtain rfl:k=0:=by simp at hk;exact hk
   exact ⟨_,rfl,⟨none,0,rfl,zAX.nil _ _,fun _ => rfl⟩,fun j u hu => ⟨g1,0,rfl,by rw [(zG6 (hd:=hd) (by omega) (by omega) c1).cell];simpa using hu⟩⟩)
 have hwx:=hw2.set 6 (.slice a7 (S.post.routes.length + 1) c7)
 obtain ⟨X,hX⟩:∃ x:World,x=w2.setCell ⟨g,6,none⟩ (.slice a7 (S.post.routes.length + 1) c7):=⟨_,rfl⟩
 rw [← hX] at hs hwx ⊢
 clear hX
 go_wp2_with fail
 go_at_call 297
 refine (zCF g _ { A with ar:=a7,cr:=c7 } _ hs Fx).mono ?_
 rintro e w9 ⟨hb9,he⟩
 have kx:=hwx.trans (KeepG.of hs.lt hb9)
 have sx:=hs.below hb9
 by_cases hx:zBB (nxtC S .route [y,lo,hi])=true
 ·rw [if_pos hx] at he
  subst he
  go_wp2
  exact bodyPost_end (results_none rfl _ _ _) rfl ⟨kx,.inl ⟨zEO HZ.out hx,rfl,_,sx⟩⟩
 ·rw [if_neg hx] at he
  subst he
  exact ⟨rfl,.bad (zFv HZ.out rfl hx) (by decide) kx sx.blk⟩
end Go.Proofs.YticjeianiahppaaGreatDoor
namespace Go.Proofs.YticjeianiahppaaGreatDoor
open Go.RowKit Go.Flow
variable {hd:Nat}
theorem zHw {α:Type} {l:List α} {i:Nat} (hi:i < l.length) {f f' : α→α} (h:f l[i]=f' l[i]):l.modify i f=l.modify i f':=by
 apply List.ext_getElem?
 intro j
 rw [List.getElem?_modify,List.getElem?_modify]
 by_cases e:i=j
 ·subst e
  rw [List.getElem?_eq_getElem hi]
  simp [h]
 ·simp [e]
theorem zIA {S:BSt} {i:Nat} (hi:i < S.post.routes.length):zCQ S (i:Int)=S.post.routes[i].legs:=by
 simp [zCQ,hi]
theorem zGZ {w:World} {g:Nat} {S:BSt} {A:Adr} (h:StAt hd w g S A) {i:Nat} (hi:i < S.post.routes.length):∃ br orr al cl,A.ar=some ⟨br,orr,none⟩∧br < w.heap.size∧w.cell? ⟨br,orr + i * 2,none⟩=some (.slice al S.post.routes[i].legs.length cl)∧zAI 3 RL (mask hd g w) al S.post.routes[i].legs∧(al=none→cl=0):=by
 obtain ⟨br,orr,cs,har,hbr,hcl,⟨al,cl,rfl,hl,nl⟩,hc⟩:=h.lists.routes.cell hi (by omega)
 have h0:=hc 0 _ rfl
 exact ⟨br,orr,al,cl,har,by rwa [zAJ] at hbr,(zBZ h.lt h.old h0).2.2,hl,nl⟩
theorem zPi (g:Nat) (S:BSt) (A:Adr) (an:Option Addr) (cn:Nat) (rt lo hi_:Int) (w:World) (h:StAt hd w g S A) (F:Few S) (hn:IntsAt (mask hd g w) an [rt,lo,hi_]) :
  Calls Tryz.prog 244 #[.pointer (some ⟨g,0,none⟩),.slice an 3 cn] w (zBA hd g S .leg [rt,lo,hi_] w):=by
 have hg:=h.lt
 have f_routes:=F.routes
 obtain ⟨bn,on,rfl,ln,n0⟩:=(hn.unmask hg h.old) 0 (by simp)
 obtain ⟨_,_,e_1,_,n1⟩:=(hn.unmask hg h.old) 1 (by simp)
 obtain ⟨rfl,rfl⟩:=zAe e_1
 obtain ⟨_,_,e_2,_,n2⟩:=(hn.unmask hg h.old) 2 (by simp)
 obtain ⟨rfl,rfl⟩:=zAe e_2
 simp at n0 n1 n2
 have ln0:=ln
 have hw0:=KeepG.refl hg
 have p6:=h.cells.cell 6
 simp at p6
 obtain ⟨r1,hr1⟩:∃ r,idxB rt S.post.routes.length=r:=⟨_,rfl⟩
 have Hr1:Hid ((decide (0≤rt) && decide (rt≤((S.post.routes.length:Int) - 1)))=r1):=Lib.hid hr1
 have iw_rt:IntKind.i64.wrap ((S.post.routes.length:Int) - 1)=(S.post.routes.length:Int) - 1:=IntWalk.i64_in _ (by omega)
 cases r1
 ·skip
  go_enter Tryz.func244,Tryz.ntmps244
  go_upto_region 0 with fail
  (refine zAC 12 (by kernel_rfl) (by kernel_rfl) ?_;simp only [zzA,zzB,zzC,zzD];(repeat (go_big_quiet_step (((go_at_call 181;refine zAH (zA6 rt 0 _ false Hr1 _))))));refine wpQuiet_nil ?_;rintro _ ⟨ex,rfl⟩;have hex:=ex.below;have hexz:=ex.size;(try simp at hexz);(try (have hy0:w.heap.size < ex.to.heap.size:=by omega));(try (have hy1:w.heap.size + 1 < ex.to.heap.size:=by omega));(try (have hy2:w.heap.size + 2 < ex.to.heap.size:=by omega)))
  obtain ⟨w1,hX⟩:∃ x:World,x=ex.to:=⟨_,rfl⟩
  rw [← hX] at hex ⊢
  clear hX hexz
  have hw1:KeepG g w w1:=hw0.trans (KeepG.of h.lt hex)
  replace n0:=zAA hex n0
  replace n1:=zAA hex n1
  replace n2:=zAA hex n2
  replace ln:=Nat.lt_of_lt_of_le ln hex.size
  replace h:=h.below hex
  replace p6:=zAA hex p6
  replace hg:=h.lt
  clear hex
  go_wp2_with fail
  go_at_call 188
  refine (zAP 7 _).mono ?_
  rintro e _ ⟨rfl,rfl⟩
  exact ⟨rfl,.bad (zA1 (E:=7) (by simp [errC,chain,hr1]) (by decide)) (by decide) hw1 h.blk⟩
 have hr0:=hr1
 simp only [idxB,Bool.and_eq_true,decide_eq_true_eq] at hr0
 obtain ⟨i,rfl⟩:∃ i:Nat,rt=i:=⟨rt.toNat,by omega⟩
 have hi:i < S.post.routes.length:=by omega
 have hiI:(i:Int) < (S.post.routes.length:Int):=by omega
 have hi0:(0:Int)≤(i:Int):=by omega
 clear hr0
 obtain ⟨ls,hls⟩:∃ ls,S.post.routes[i].legs=ls:=⟨_,rfl⟩
 have hlo:zCQ S (i:Int)=ls:=by rw [zIA hi,hls]
 have HL:=Lib.hid hls
 have HO:=Lib.hid hlo
 have fls:ls.length≤3:=by rw [← hls];exact F.legs _ (List.getElem_mem hi)
 have EC:Hid (errC S .leg [(i:Int),lo,hi_]=chain [(true,7),(zCJ lo hi_ 6,2),(decide (ls.length < 3),3)]):=Lib.hid (by show chain [(idxB (i:Int) S.post.routes.length,7),(zCJ lo hi_ 6,2),(decide ((zCQ S (i:Int)).length < 3),3)]=_;rw [hr1,hlo])
 clear hls hlo
 by_cases hsp:zCJ lo hi_ 6=true
 rotate_left
 ·replace hsp:zCJ lo hi_ 6=false:=by simpa using hsp
  go_enter Tryz.func244,Tryz.ntmps244
  go_upto_region 0 with fail
  (refine zAC 12 (by kernel_rfl) (by kernel_rfl) ?_;simp only [zzA,zzB,zzC,zzD];(repeat (go_big_quiet_step (((go_at_call 181;refine zAH (zA6 (i:Int) 0 _ true Hr1 _))))));refine wpQuiet_nil ?_;rintro _ ⟨ex,rfl⟩;have hex:=ex.below;have hexz:=ex.size;(try simp at hexz);(try (have hy0:w.heap.size < ex.to.heap.size:=by omega));(try (have hy1:w.heap.size + 1 < ex.to.heap.size:=by omega));(try (have hy2:w.heap.size + 2 < ex.to.heap.size:=by omega)))
  obtain ⟨w1,hX⟩:∃ x:World,x=ex.to:=⟨_,rfl⟩
  rw [← hX] at hex ⊢
  clear hX hexz
  have hw1:KeepG g w w1:=hw0.trans (KeepG.of h.lt hex)
  replace n0:=zAA hex n0
  replace n1:=zAA hex n1
  replace n2:=zAA hex n2
  replace ln:=Nat.lt_of_lt_of_le ln hex.size
  replace h:=h.below hex
  replace p6:=zAA hex p6
  replace hg:=h.lt
  clear hex
  go_wp2_with fail
  go_at_call 188
  refine (zA3 7 _).mono ?_
  rintro e _ ⟨rfl,rfl⟩
  go_upto_region 1 with fail
  go_region_dies
  all_goals
   go_at_call 295
   refine (zGn lo hi_ 6 hsp _).mono ?_
   rintro e w9 ⟨rfl,hb9⟩
   have hbb:Below w1.heap.size w1 w9:=by exact zzL
   exact ⟨rfl,.bad (zA1 (E:=2) (by rw [EC.out,hsp];rfl) (by decide)) (by decide) (hw1.trans (KeepG.of h.lt hbb)) (h.below hbb).blk⟩
 go_enter Tryz.func244,Tryz.ntmps244
 go_upto_region 0 with fail
 (refine zAC 12 (by kernel_rfl) (by kernel_rfl) ?_;simp only [zzA,zzB,zzC,zzD];(repeat (go_big_quiet_step (((go_at_call 181;refine zAH (zA6 (i:Int) 0 _ true Hr1 _))))));refine wpQuiet_nil ?_;rintro _ ⟨ex,rfl⟩;have hex:=ex.below;have hexz:=ex.size;(try simp at hexz);(try (have hy0:w.heap.size < ex.to.heap.size:=by omega));(try (have hy1:w.heap.size + 1 < ex.to.heap.size:=by omega));(try (have hy2:w.heap.size + 2 < ex.to.heap.size:=by omega)))
 obtain ⟨w1,hX⟩:∃ x:World,x=ex.to:=⟨_,rfl⟩
 rw [← hX] at hex ⊢
 clear hX hexz
 have hw1:KeepG g w w1:=hw0.trans (KeepG.of h.lt hex)
 replace n0:=zAA hex n0
 replace n1:=zAA hex n1
 replace n2:=zAA hex n2
 replace ln:=Nat.lt_of_lt_of_le ln hex.size
 replace h:=h.below hex
 replace p6:=zAA hex p6
 replace hg:=h.lt
 clear hex
 go_wp2_with fail
 go_at_call 188
 refine (zA3 7 _).mono ?_
 rintro e _ ⟨rfl,rfl⟩
 go_upto_region 1 with fail
 (refine zAD 9 [] [9] 51 [true,true,true,true,true,true,true,true,false] [PtrV w1.heap.size #[.int .i64 0,.int .i64 0,.slice none 0 0] 147] (by kernel_rfl) (by kernel_rfl) rfl (zAB (fun v w w' h hb => h.kept hb) zAR) ?_;simp only [zAU,List.filterMap_cons,List.filterMap_nil,zzH,zzI,zzJ];(repeat (refine zAM _ rfl (fun w => (by go_simp;rfl)) ?_));refine zAS ?_;simp only [zAF,zAt,Act.put,zzG,zzE,zzF,zzA,zzB,zzC,zzD];(repeat (refine zAL (fun K hK => ?_);go_simp;first | (refine hK _ ?_;clear hK K) | (apply Exists.intro;refine ⟨fun ex => ?_,hK _ ?_⟩;((go_at_call 295;exact zId lo hi_ 6 hsp _));clear hK K)));refine zAQ ?_;simp only [zAT,under,zAZ,and_true,List.nil_append,List.cons_append])
 refine ⟨?_,?_⟩
 ·intro e
  go_simp
  exact ⟨(Below.refl _ _).alloc (Nat.le_refl _) _,e.to.heap.size,rfl,e.size,Cells.new _ _ _⟩
 intro e
 rintro v1 ⟨B1,rfl,lB1,CB1⟩
 simp only [Act.put,zzG,zzE,zzF]
 have heb:=e.below
 obtain ⟨V,hV⟩:∃ x:World,x=e.to:=⟨_,rfl⟩
 rw [← hV] at heb CB1 ⊢
 clear hV e
 have z0:=CB1.cell 0
 have y0:=CB1.frozen 0
 have z1:=CB1.cell 1
 have y1:=CB1.frozen 1
 have z2:=CB1.cell 2
 have y2:=CB1.frozen 2
 have lz:=CB1.lt
 simp at z0 z1 z2
 go_upto_region 2 with fail
 obtain ⟨w2,hV9⟩:∃ x:World,x=((V.setCell ⟨B1,0,none⟩ (.int .i64 lo)).setCell ⟨B1,1,none⟩ (.int .i64 hi_)).setCell ⟨B1,2,none⟩ (.slice none 0 0):=⟨_,rfl⟩
 have hb9:Below w1.heap.size w1 w2:=by rw [hV9];exact ((heb.setCell (p:=⟨B1,0,none⟩) lB1 _).setCell (p:=⟨B1,1,none⟩) lB1 _).setCell (p:=⟨B1,2,none⟩) lB1 _
 replace CB1:Cells w2 B1 #[.int .i64 lo,.int .i64 hi_,.slice none 0 0] 147:=by rw [hV9];exact ((CB1.set 0 _).set 1 _).set 2 _
 rw [← hV9]
 clear hV9 z0 y0 z1 y1 z2 y2 lz heb
 have hw2:KeepG g w w2:=hw1.trans (KeepG.of h.lt hb9)
 replace n0:=zAA hb9 n0
 replace n1:=zAA hb9 n1
 replace n2:=zAA hb9 n2
 replace ln:=Nat.lt_of_lt_of_le ln hb9.size
 replace h:=h.below hb9
 replace p6:=zAA hb9 p6
 replace hg:=h.lt
 obtain ⟨br,orr,al,cl,har,lbr,cr0,hlg,nlg⟩:=zGZ h hi
 rw [HL.out] at cr0 hlg
 rw [har] at p6
 have Har:=Lib.hid har
 clear har
 go_upto_region 2 with fail
 (refine zAC 13 (by kernel_rfl) (by kernel_rfl) ?_;simp only [zzA,zzB,zzC,zzD];(repeat (go_big_quiet_step ((fail))));refine wpQuiet_nil ?_;rintro _ ⟨ex,rfl⟩;have hex:=ex.below;have hexz:=ex.size;(try simp at hexz);(try (have hy0:w.heap.size < ex.to.heap.size:=by omega));(try (have hy1:w.heap.size + 1 < ex.to.heap.size:=by omega));(try (have hy2:w.heap.size + 2 < ex.to.heap.size:=by omega)))
 obtain ⟨w3,hX⟩:∃ x:World,x=ex.to:=⟨_,rfl⟩
 rw [← hX] at hex ⊢
 clear hX hexz
 have hw3:KeepG g w w3:=hw2.trans (KeepG.of h.lt hex)
 replace n0:=zAA hex n0
 replace n1:=zAA hex n1
 replace n2:=zAA hex n2
 replace ln:=Nat.lt_of_lt_of_le ln hex.size
 replace CB1:=CB1.below hex
 replace cr0:=zAA hex cr0
 replace lbr:=Nat.lt_of_lt_of_le lbr hex.size
 replace hlg:=hlg.below zCx (by rw [zAJ];exact zA0 h.lt h.old hex)
 replace h:=h.below hex
 replace p6:=zAA hex p6
 replace hg:=h.lt
 clear hex
 go_wp2_with fail
 go_at_call 188
 obtain ⟨q3,hq3⟩:∃ q,(decide ((ls.length:Int) < 3))=q:=⟨_,rfl⟩
 rw [hq3]
 cases q3
 ·refine (zAP 3 _).mono ?_
  rintro e _ ⟨rfl,rfl⟩
  exact ⟨rfl,.bad (zA1 (E:=3) (by simp at hq3;rw [EC.out,hsp];simp [chain];omega) (by decide)) (by decide) hw3 h.blk⟩
 refine (zA3 3 _).mono ?_
 rintro e _ ⟨rfl,rfl⟩
 replace hq3:(ls.length:Int) < 3:=by simpa using hq3
 have HZ:Hid (errC S .leg [(i:Int),lo,hi_]=0):=Lib.hid (by rw [EC.out,hsp];simp [chain];omega)
 have x0:=CB1.cell 0
 have x1:=CB1.cell 1
 have x2:=CB1.cell 2
 have lx:=CB1.lt
 simp at x0 x1 x2
 have nv:al=none→ls.length=0∧cl=0:=fun e => ⟨by have q:=hlg;rw [e] at q;rw [q.none (by omega)];rfl,nlg e⟩
 obtain ⟨vs,rv,sv⟩:=hlg
 have lv:=rv.1
 have ov:=rv.one oneL (by omega)
 replace sv:=zAh h.lt h.old sv
 go_upto_region 4 with fail
 (refine zGH 7 [7] 51 [true,true,true,true,true,true,false] [OwnV 147 3 w3.heap.size (ls.length + 1) (vs ++ [.int .i64 lo,.int .i64 hi_,.slice none 0 0])] (by kernel_rfl) (by kernel_rfl) rfl (zAB (fun v w w' h hb => h.kept hb) zAR) ?_;simp only [zAU,List.filterMap_cons,List.filterMap_nil,zzH,zzI,zzJ];simp only [zAF,zAt,Act.put,zzG,zzE,zzF,zzA,zzB,zzC,zzD];(repeat (refine zAL (fun K hK => ?_);go_simp;first | (refine hK _ ?_;clear hK K) | (apply Exists.intro;refine ⟨fun ex => ?_,hK _ ?_⟩;(fail);clear hK K)));refine zAQ ?_;simp only [zAT,under,zAZ,and_true,List.nil_append,List.cons_append])
 refine ⟨fun e => ?_,fun e => ?_⟩
 ·go_simp
  refine (zPM al ls.length cl vs e.to (zAO sv e.below) lv nv ov (by omega) lo hi_ none 0 0).mono ?_
  rintro _ _ ⟨⟨a',c',rfl,o⟩,b⟩
  exact ⟨b,a',c',rfl,o.base_le e.size⟩
 rintro v1 ⟨a7,c7,rfl,o7⟩
 simp only [Act.put,zzG,zzE,zzF]
 have heb:=e.below
 obtain ⟨w4,hV2⟩:∃ x:World,x=e.to:=⟨_,rfl⟩
 rw [← hV2] at heb o7 ⊢
 clear hV2 e
 have rv':=zAY.below zCx rv (by rw [zAJ];exact zA0 h.lt h.old heb)
 have hgb:g < w3.heap.size:=h.lt
 have hgbh:hd < w3.heap.size:=h.old
 have hw4:KeepG g w w4:=hw3.trans (KeepG.of h.lt heb)
 replace n0:=zAA heb n0
 replace n1:=zAA heb n1
 replace n2:=zAA heb n2
 replace ln:=Nat.lt_of_lt_of_le ln heb.size
 replace CB1:=CB1.below heb
 replace cr0:=zAA heb cr0
 replace lbr:=Nat.lt_of_lt_of_le lbr heb.size
 replace h:=h.below heb
 replace p6:=zAA heb p6
 replace hg:=h.lt
 have hl9:zAI 3 RL (mask hd g w4) a7 (ls ++ [⟨lo,hi_,[]⟩]):=zAI.own (o7.mask hgb hgbh) (rv'.snoc ⟨none,0,rfl,zAX.nil _ _,fun _ => rfl⟩ rfl)
 have nl9:a7=none→c7=0:=fun e => by subst e;exact zBY o7
 have EZ:errC S .leg [(i:Int),lo,hi_]=0:=HZ.out
 have Eq:nxtC S .leg [(i:Int),lo,hi_]=zBN S i (ls ++ [⟨lo,hi_,[]⟩]):=by show { S with post:={ S.post with routes:=S.post.routes.modify i _ } }=zBN S i _;unfold zBN;rw [zHw hi (f':=fun x => ⟨ls ++ [⟨lo,hi_,[]⟩],x.lossy⟩) (by simp only [HL.out])]
 have F' : Few (zBN S i (ls ++ [⟨lo,hi_,[]⟩])):=Eq ▸ F.nxt _ _ EZ
 have lc:=zJj g S _ i a7 c7 (ls ++ [⟨lo,hi_,[]⟩]) _ h F F' hi hl9 nl9
 rw [List.length_append,List.length_singleton] at lc
 clear EZ
 go_wp2_with fail
 go_at_call 298
 refine lc.mono ?_
 rintro e w9 ⟨k9,⟨A9,s9⟩,he⟩
 have kx:=hw4.trans k9
 rw [← Eq] at s9 he
 by_cases hx:zBB (nxtC S .leg [(i:Int),lo,hi_])=true
 ·rw [if_pos hx] at he
  subst he
  go_wp2
  exact bodyPost_end (results_none rfl _ _ _) rfl ⟨kx,.inl ⟨zEO HZ.out hx,rfl,_,s9⟩⟩
 ·rw [if_neg hx] at he
  subst he
  exact ⟨rfl,.bad (zFv HZ.out rfl hx) (by decide) kx s9.blk⟩
end Go.Proofs.YticjeianiahppaaGreatDoor
