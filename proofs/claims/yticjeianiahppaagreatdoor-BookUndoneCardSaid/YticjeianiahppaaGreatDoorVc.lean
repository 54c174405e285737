/- book, laws: same of one state at two places -/
import Derived.Test.YticjeianiahppaaGreatDoorVb
import Derived.BigRegion
namespace Go.Proofs.YticjeianiahppaaGreatDoor
set_option linter.unusedVariables false
set_option linter.unusedSimpArgs false
set_option linter.unnecessarySimpa false
open Go.RowKit Go.Flow
set_option maxRecDepth 100000 in
set_option maxHeartbeats 4000000 in
theorem same_same (S:BSt) (A B:Adr) (w:World) (hA:Lists w S A) (hB:Lists w S B) (F:Few S) :
  Calls Tryz.prog 57 #[.agg (stCells S A),.agg (stCells S B)] w fun e w' => e=.returned (.bool true)∧Below w.heap.size w w':=by
 obtain ⟨W0,hW0⟩:∃ z:World,z=(w.alloc (.cells (stCells S A) 57)).alloc (.cells (stCells S B) 57):=⟨_,rfl⟩
 have t0:Below w.heap.size w W0:=by rw [hW0];exact ((Below.refl _ _).alloc (Nat.le_refl _) _).alloc (by simp) _
 have C0:Cells W0 w.heap.size (stCells S A) 57:=by rw [hW0];exact (Cells.new _ _ _).alloc _
 have D0:Cells W0 (w.heap.size + 1) (stCells S B) 57:=by rw [hW0];exact Cells.new' _ _ _ _ (by simp)
 have si:=fun (a b:Option Addr) (c d:Nat) (x:List Int) (W:World) (hx:IntsAt W a x) (hy:IntsAt W b x) (h:x.length≤1000) => ints_any a b c d x x W hx hy h
 simp only [decide_true] at si
 have k:=fun j => C0.cell j
 have m:=fun j => D0.cell j
 have k0:=k 0
 have k1:=k 1
 have k2:=k 2
 have k3:=k 3
 have k4:=k 4
 have k5:=k 5
 have k6:=k 6
 have k7:=k 7
 have k8:=k 8
 have k9:=k 9
 have k10:=k 10
 have k11:=k 11
 have k12:=k 12
 have m0:=m 0
 have m1:=m 1
 have m2:=m 2
 have m3:=m 3
 have m4:=m 4
 have m5:=m 5
 have m6:=m 6
 have m7:=m 7
 have m8:=m 8
 have m9:=m 9
 have m10:=m 10
 have m11:=m 11
 have m12:=m 12
 clear k m
 simp at k0 k1 k2 k3 k4 k5 k6 k7 k8 k9 k10 k11 k12 m0 m1 m2 m3 m4 m5 m6 m7 m8 m9 m10 m11 m12
 have lC:=C0.lt
 have lD:=D0.lt
 unfold stCells at hW0 ⊢
 go_enter Tryz.func57,Tryz.ntmps57
 go_upto_region 1 with fail
 rw [← hW0]
 clear hW0
 try simp only [List.append_eq,List.cons_append,List.nil_append]
 go_wp2_with fail
 go_at_call 48
 refine (si _ _ _ _ S.days _ (hA.days.atI.below t0) (hB.days.atI.below t0) (by have:=F.days;omega)).mono ?_
 rintro e W1 ⟨rfl,b1⟩
 have t1:=t0.trans (b1.mono t0.size)
 clear k0 m0 k1 m1 k2 m2 k3 m3 k4 m4 k5 m5 k6 m6 k7 m7 k8 m8 k9 m9 k10 m10 k11 m11 k12 m12 lC lD
 have k4:=(C0.below b1).cell 4
 have m4:=(D0.below b1).cell 4
 have k5:=(C0.below b1).cell 5
 have m5:=(D0.below b1).cell 5
 have k6:=(C0.below b1).cell 6
 have m6:=(D0.below b1).cell 6
 have k7:=(C0.below b1).cell 7
 have m7:=(D0.below b1).cell 7
 have k8:=(C0.below b1).cell 8
 have m8:=(D0.below b1).cell 8
 have k9:=(C0.below b1).cell 9
 have m9:=(D0.below b1).cell 9
 have k10:=(C0.below b1).cell 10
 have m10:=(D0.below b1).cell 10
 have k11:=(C0.below b1).cell 11
 have m11:=(D0.below b1).cell 11
 have k12:=(C0.below b1).cell 12
 have m12:=(D0.below b1).cell 12
 have lC:=(C0.below b1).lt
 have lD:=(D0.below b1).lt
 simp at k4 m4 k5 m5 k6 m6 k7 m7 k8 m8 k9 m9 k10 m10 k11 m11 k12 m12
 go_wp2_with fail
 go_at_call 48
 refine (si _ _ _ _ S.post.sends _ (hA.sends.atI.below t1) (hB.sends.atI.below t1) (by have:=F.sends;omega)).mono ?_
 rintro e W2 ⟨rfl,b2'⟩
 have b2:=b1.trans (b2'.mono b1.size)
 have t2:=t0.trans (b2.mono t0.size)
 clear k4 m4 k5 m5 k6 m6 k7 m7 k8 m8 k9 m9 k10 m10 k11 m11 k12 m12 lC lD b1 b2' t1
 have k2:=(C0.below b2).cell 2
 have m2:=(D0.below b2).cell 2
 have k4:=(C0.below b2).cell 4
 have m4:=(D0.below b2).cell 4
 have k6:=(C0.below b2).cell 6
 have m6:=(D0.below b2).cell 6
 have k7:=(C0.below b2).cell 7
 have m7:=(D0.below b2).cell 7
 have k8:=(C0.below b2).cell 8
 have m8:=(D0.below b2).cell 8
 have k9:=(C0.below b2).cell 9
 have m9:=(D0.below b2).cell 9
 have k10:=(C0.below b2).cell 10
 have m10:=(D0.below b2).cell 10
 have k11:=(C0.below b2).cell 11
 have m11:=(D0.below b2).cell 11
 have k12:=(C0.below b2).cell 12
 have m12:=(D0.below b2).cell 12
 have lC:=(C0.below b2).lt
 have lD:=(D0.below b2).lt
 simp at k2 m2 k4 m4 k6 m6 k7 m7 k8 m8 k9 m9 k10 m10 k11 m11 k12 m12
 go_wp2_with fail
 go_loopw [5] (fun i X => ∃ k:Nat,k≤S.keys.length∧i=.int .i64 k∧Below W0.heap.size W0 X) (fun i _ => S.keys.length - (intOf i).toNat)
 case atStart => exact ⟨0,Nat.zero_le _,rfl,b2⟩
 case round =>
  clear k2 m2 k4 m4 k6 m6 k8 m8 k12 m12 lC lD b2
  obtain ⟨k,hk,rfl,hb⟩:=hrel
  have tb:=t0.trans (hb.mono t0.size)
  have k2:=(C0.below hb).cell 2
  have m2:=(D0.below hb).cell 2
  have k4:=(C0.below hb).cell 4
  have m4:=(D0.below hb).cell 4
  have k6:=(C0.below hb).cell 6
  have m6:=(D0.below hb).cell 6
  have k8:=(C0.below hb).cell 8
  have m8:=(D0.below hb).cell 8
  have k12:=(C0.below hb).cell 12
  have m12:=(D0.below hb).cell 12
  have lC:=(C0.below hb).lt
  have lD:=(D0.below hb).lt
  simp at k2 m2 k4 m4 k6 m6 k8 m8 k12 m12
  have hlen:S.keys.length≤1000:=by have:=F.keys;omega
  by_cases hlt:k < S.keys.length
  ·have hkI:(k:Int) < (S.keys.length:Int):=by omega
   have hk0:(0:Int)≤(k:Int):=by omega
   have iw:IntKind.i64.wrap ((k:Int) + 1)=(k:Int) + 1:=IntWalk.i64_in _ (by omega)
   obtain ⟨b1,f1,cs,rr,lb1,_,rfl,c1⟩:=(hA.keys.below staysK tb).cell hlt (by omega)
   have p0:=c1 0 _ rfl
   have p1:=c1 1 _ rfl
   have p2:=c1 2 _ rfl
   clear c1
   simp only [Nat.add_zero] at p0
   obtain ⟨b2,f2,cs,rr,lb2,_,rfl,c2⟩:=(hB.keys.below staysK tb).cell hlt (by omega)
   have q0:=c2 0 _ rfl
   have q1:=c2 1 _ rfl
   have q2:=c2 2 _ rfl
   clear c2
   simp only [Nat.add_zero] at q0
   skip
   go_upto_region 6 with fail
   (refine wp_region_ext 11 (by kernel_rfl) (by kernel_rfl) ?_;simp only [List.take_succ_cons,List.take_zero,List.drop_succ_cons,List.drop_zero];(repeat (go_big_quiet_step ((fail))));refine wpQuiet_nil ?_;rintro _ ⟨ex,rfl⟩;have hex:=ex.below;have hexz:=ex.size;(try simp at hexz);(try (have hy0:w.heap.size < ex.to.heap.size:=by omega));(try (have hy1:w.heap.size + 1 < ex.to.heap.size:=by omega));(try (have hy2:w.heap.size + 2 < ex.to.heap.size:=by omega)))
   obtain ⟨w1,hX⟩:∃ z:World,z=ex.to:=⟨_,rfl⟩
   rw [← hX] at hex ⊢
   clear hX hexz
   go_wp2_with fail
   go_round
   case rel => exact ⟨k + 1,by omega,by go_num,hb.trans (hex.mono hb.size)⟩
   case measure => simp [intOf];omega
  ·obtain rfl:k=S.keys.length:=by omega
   go_wp2_with fail
   go_loopw [6] (fun i X => ∃ k:Nat,k≤S.lost.length∧i=.int .i64 k∧Below W0.heap.size W0 X) (fun i _ => S.lost.length - (intOf i).toNat)
   case atStart => exact ⟨0,Nat.zero_le _,rfl,hb⟩
   case round =>
    clear k4 m4 k6 m6 k8 m8 k12 m12 lC lD hb
    obtain ⟨k,hk,rfl,hb⟩:=hrel
    have tb:=t0.trans (hb.mono t0.size)
    have k4:=(C0.below hb).cell 4
    have m4:=(D0.below hb).cell 4
    have k6:=(C0.below hb).cell 6
    have m6:=(D0.below hb).cell 6
    have k8:=(C0.below hb).cell 8
    have m8:=(D0.below hb).cell 8
    have k12:=(C0.below hb).cell 12
    have m12:=(D0.below hb).cell 12
    have lC:=(C0.below hb).lt
    have lD:=(D0.below hb).lt
    simp at k4 m4 k6 m6 k8 m8 k12 m12
    have hlen:S.lost.length≤1000:=by have:=F.lost;omega
    by_cases hlt:k < S.lost.length
    ·have hkI:(k:Int) < (S.lost.length:Int):=by omega
     have hk0:(0:Int)≤(k:Int):=by omega
     have iw:IntKind.i64.wrap ((k:Int) + 1)=(k:Int) + 1:=IntWalk.i64_in _ (by omega)
     obtain ⟨b1,f1,cs,rr,lb1,_,rfl,c1⟩:=(hA.lost.below staysP tb).cell hlt (by omega)
     have p0:=c1 0 _ rfl
     have p1:=c1 1 _ rfl
     clear c1
     simp only [Nat.add_zero] at p0
     obtain ⟨b2,f2,cs,rr,lb2,_,rfl,c2⟩:=(hB.lost.below staysP tb).cell hlt (by omega)
     have q0:=c2 0 _ rfl
     have q1:=c2 1 _ rfl
     clear c2
     simp only [Nat.add_zero] at q0
     skip
     go_upto_region 11 with fail
     (refine wp_region_ext 11 (by kernel_rfl) (by kernel_rfl) ?_;simp only [List.take_succ_cons,List.take_zero,List.drop_succ_cons,List.drop_zero];(repeat (go_big_quiet_step ((fail))));refine wpQuiet_nil ?_;rintro _ ⟨ex,rfl⟩;have hex:=ex.below;have hexz:=ex.size;(try simp at hexz);(try (have hy0:w.heap.size < ex.to.heap.size:=by omega));(try (have hy1:w.heap.size + 1 < ex.to.heap.size:=by omega));(try (have hy2:w.heap.size + 2 < ex.to.heap.size:=by omega)))
     obtain ⟨w1,hX⟩:∃ z:World,z=ex.to:=⟨_,rfl⟩
     rw [← hX] at hex ⊢
     clear hX hexz
     go_wp2_with fail
     go_round
     case rel => exact ⟨k + 1,by omega,by go_num,hb.trans (hex.mono hb.size)⟩
     case measure => simp [intOf];omega
    ·obtain rfl:k=S.lost.length:=by omega
     go_wp2_with fail
     go_loopw [7] (fun i X => ∃ k:Nat,k≤S.journal.length∧i=.int .i64 k∧Below W0.heap.size W0 X) (fun i _ => S.journal.length - (intOf i).toNat)
     case atStart => exact ⟨0,Nat.zero_le _,rfl,hb⟩
     case round =>
      clear k6 m6 k8 m8 k12 m12 lC lD hb
      obtain ⟨k,hk,rfl,hb⟩:=hrel
      have tb:=t0.trans (hb.mono t0.size)
      have k6:=(C0.below hb).cell 6
      have m6:=(D0.below hb).cell 6
      have k8:=(C0.below hb).cell 8
      have m8:=(D0.below hb).cell 8
      have k12:=(C0.below hb).cell 12
      have m12:=(D0.below hb).cell 12
      have lC:=(C0.below hb).lt
      have lD:=(D0.below hb).lt
      simp at k6 m6 k8 m8 k12 m12
      have hlen:S.journal.length≤1000:=by have:=F.journal;omega
      by_cases hlt:k < S.journal.length
      ·have hkI:(k:Int) < (S.journal.length:Int):=by omega
       have hk0:(0:Int)≤(k:Int):=by omega
       have iw:IntKind.i64.wrap ((k:Int) + 1)=(k:Int) + 1:=IntWalk.i64_in _ (by omega)
       obtain ⟨b1,f1,cs,rr,lb1,_,rfl,c1⟩:=(hA.journal.below staysE tb).cell hlt (by omega)
       have p0:=c1 0 _ rfl
       have p1:=c1 1 _ rfl
       have p2:=c1 2 _ rfl
       clear c1
       simp only [Nat.add_zero] at p0
       obtain ⟨b2,f2,cs,rr,lb2,_,rfl,c2⟩:=(hB.journal.below staysE tb).cell hlt (by omega)
       have q0:=c2 0 _ rfl
       have q1:=c2 1 _ rfl
       have q2:=c2 2 _ rfl
       clear c2
       simp only [Nat.add_zero] at q0
       skip
       go_upto_region 16 with fail
       (refine wp_region_ext 11 (by kernel_rfl) (by kernel_rfl) ?_;simp only [List.take_succ_cons,List.take_zero,List.drop_succ_cons,List.drop_zero];(repeat (go_big_quiet_step ((fail))));refine wpQuiet_nil ?_;rintro _ ⟨ex,rfl⟩;have hex:=ex.below;have hexz:=ex.size;(try simp at hexz);(try (have hy0:w.heap.size < ex.to.heap.size:=by omega));(try (have hy1:w.heap.size + 1 < ex.to.heap.size:=by omega));(try (have hy2:w.heap.size + 2 < ex.to.heap.size:=by omega)))
       obtain ⟨w1,hX⟩:∃ z:World,z=ex.to:=⟨_,rfl⟩
       rw [← hX] at hex ⊢
       clear hX hexz
       go_wp2_with fail
       go_round
       case rel => exact ⟨k + 1,by omega,by go_num,hb.trans (hex.mono hb.size)⟩
       case measure => simp [intOf];omega
      ·obtain rfl:k=S.journal.length:=by omega
       go_wp2_with fail
       go_loopw [8] (fun i X => ∃ k:Nat,k≤S.post.routes.length∧i=.int .i64 k∧Below W0.heap.size W0 X) (fun i _ => S.post.routes.length - (intOf i).toNat)
       case atStart => exact ⟨0,Nat.zero_le _,rfl,hb⟩
       case round =>
        clear k6 m6 k12 m12 lC lD hb
        obtain ⟨k,hk,rfl,hb⟩:=hrel
        have tb:=t0.trans (hb.mono t0.size)
        have k6:=(C0.below hb).cell 6
        have m6:=(D0.below hb).cell 6
        have k12:=(C0.below hb).cell 12
        have m12:=(D0.below hb).cell 12
        have lC:=(C0.below hb).lt
        have lD:=(D0.below hb).lt
        simp at k6 m6 k12 m12
        have hlen:S.post.routes.length≤1000:=by have:=F.routes;omega
        by_cases hlt:k < S.post.routes.length
        ·have hkI:(k:Int) < (S.post.routes.length:Int):=by omega
         have hk0:(0:Int)≤(k:Int):=by omega
         have iw:IntKind.i64.wrap ((k:Int) + 1)=(k:Int) + 1:=IntWalk.i64_in _ (by omega)
         obtain ⟨b1,f1,cs,rr,lb1,_,⟨al,c1,rfl,ll,_⟩,d1⟩:=(hA.routes.below staysR tb).cell hlt (by omega)
         obtain ⟨b2,f2,cs,rr2,lb2,_,⟨am,c2,rfl,mm,_⟩,d2⟩:=(hB.routes.below staysR tb).cell hlt (by omega)
         have p0:=d1 0 _ rfl
         have q0:=d2 0 _ rfl
         have p1:=d1 1 _ rfl
         have q1:=d2 1 _ rfl
         clear d1 d2
         simp only [Nat.add_zero] at p0 q0
         have hx1:=F.legs S.post.routes[k] (List.getElem_mem hlt)
         have hx2:=F.asl S.post.routes[k] (List.getElem_mem hlt)
         generalize S.post.routes[k]=x at *
         go_upto_region 21 with fail
         (refine wp_region_ext 14 (by kernel_rfl) (by kernel_rfl) ?_;simp only [List.take_succ_cons,List.take_zero,List.drop_succ_cons,List.drop_zero];(repeat (go_big_quiet_step (((go_at_call 112;refine Calls_ext (alike_same x _ _ _ _ _ (ll.below staysL (Ext.below _)) (mm.below staysL (Ext.below _)) (by omega) (fun y hy => by have:=hx2 y hy;omega)))))));refine wpQuiet_nil ?_;rintro _ ⟨ex,rfl⟩;have hex:=ex.below;have hexz:=ex.size;(try simp at hexz);(try (have hy0:w.heap.size < ex.to.heap.size:=by omega));(try (have hy1:w.heap.size + 1 < ex.to.heap.size:=by omega));(try (have hy2:w.heap.size + 2 < ex.to.heap.size:=by omega)))
         obtain ⟨w1,hX⟩:∃ z:World,z=ex.to:=⟨_,rfl⟩
         rw [← hX] at hex ⊢
         clear hX hexz
         go_wp2_with fail
         go_round
         case rel => exact ⟨k + 1,by omega,by go_num,hb.trans (hex.mono hb.size)⟩
         case measure => simp [intOf];omega
        ·obtain rfl:k=S.post.routes.length:=by omega
         go_wp2_with fail
         go_loopw [9] (fun i X => ∃ k:Nat,k≤S.ds.length∧i=.int .i64 k∧Below W0.heap.size W0 X) (fun i _ => S.ds.length - (intOf i).toNat)
         case atStart => exact ⟨0,Nat.zero_le _,rfl,hb⟩
         case round =>
          clear k12 m12 lC lD hb
          obtain ⟨k,hk,rfl,hb⟩:=hrel
          have tb:=t0.trans (hb.mono t0.size)
          have k12:=(C0.below hb).cell 12
          have m12:=(D0.below hb).cell 12
          have lC:=(C0.below hb).lt
          have lD:=(D0.below hb).lt
          simp at k12 m12
          have hlen:S.ds.length≤1000:=by have:=F.ds;omega
          by_cases hlt:k < S.ds.length
          ·have hkI:(k:Int) < (S.ds.length:Int):=by omega
           have hk0:(0:Int)≤(k:Int):=by omega
           have iw:IntKind.i64.wrap ((k:Int) + 1)=(k:Int) + 1:=IntWalk.i64_in _ (by omega)
           obtain ⟨b1,f1,cs,rr,lb1,_,⟨al,zc1,rfl,r1,_⟩,c1⟩:=(hA.ds.below staysD tb).cell hlt (by omega)
           have p0:=c1 0 _ rfl
           have p1:=c1 1 _ rfl
           have p2:=c1 2 _ rfl
           have p3:=c1 3 _ rfl
           clear c1
           simp only [Nat.add_zero] at p0
           obtain ⟨b2,f2,cs,rr2,lb2,_,⟨am,zc2,rfl,r2,_⟩,c2⟩:=(hB.ds.below staysD tb).cell hlt (by omega)
           have q0:=c2 0 _ rfl
           have q1:=c2 1 _ rfl
           have q2:=c2 2 _ rfl
           have q3:=c2 3 _ rfl
           clear c2
           simp only [Nat.add_zero] at q0
           have hx1:=F.passed S.ds[k] (List.getElem_mem hlt)
           generalize S.ds[k]=x at *
           go_upto_region 26 with fail
           go_region
           ·obtain ⟨V,hV⟩:∃ z:World,z=((wr.alloc (.cells #[.int .i64 x.payer,.int .i64 x.lo,.int .i64 x.hi,.slice al x.passed.length zc1] 192)).alloc (.cells #[.int .i64 x.payer,.int .i64 x.lo,.int .i64 x.hi,.slice am x.passed.length zc2] 192)).drew:=⟨_,rfl⟩
            have bV:Below wr.heap.size wr V:=by rw [hV];exact (((Below.refl _ _).alloc (Nat.le_refl _) _).alloc (by simp) _).drew
            have G1:Cells V wr.heap.size #[.int .i64 x.payer,.int .i64 x.lo,.int .i64 x.hi,.slice al x.passed.length zc1] 192:=by rw [hV];exact (Cells.new _ _ _).alloc _
            have G2:Cells V (wr.heap.size + 1) #[.int .i64 x.payer,.int .i64 x.lo,.int .i64 x.hi,.slice am x.passed.length zc2] 192:=by rw [hV];exact Cells.new' _ _ _ _ (by simp)
            rw [← hV]
            clear hV
            have g0:=G1.cell 0
            have h0:=G2.cell 0
            have g1:=G1.cell 1
            have h1:=G2.cell 1
            have g2:=G1.cell 2
            have h2:=G2.cell 2
            have g3:=G1.cell 3
            have h3:=G2.cell 3
            have lG1:=G1.lt
            have lG2:=G2.lt
            simp at g0 g1 g2 g3 h0 h1 h2 h3
            go_wp2_with fail
            go_at_call 48
            refine (si _ _ _ _ x.passed _ (r1.below bV) (r2.below bV) (by omega)).mono ?_
            rintro e W9 ⟨rfl,b9⟩
            go_wp2_with fail
            go_round
            case rel =>
             rw [rr,rr2]
             repeat (apply Exists.intro)
             refine ⟨?_,rfl⟩
             exact ⟨k + 1,by omega,by go_num,hb.trans ((bV.trans (b9.mono bV.size)).mono hb.size)⟩
            case measure => simp [intOf];omega
           ·obtain ⟨V,hV⟩:∃ z:World,z=((wr.alloc (.cells #[.int .i64 x.payer,.int .i64 x.lo,.int .i64 x.hi,.slice am x.passed.length zc2] 192)).alloc (.cells #[.int .i64 x.payer,.int .i64 x.lo,.int .i64 x.hi,.slice al x.passed.length zc1] 192)).drew:=⟨_,rfl⟩
            have bV:Below wr.heap.size wr V:=by rw [hV];exact (((Below.refl _ _).alloc (Nat.le_refl _) _).alloc (by simp) _).drew
            have G1:Cells V wr.heap.size #[.int .i64 x.payer,.int .i64 x.lo,.int .i64 x.hi,.slice am x.passed.length zc2] 192:=by rw [hV];exact (Cells.new _ _ _).alloc _
            have G2:Cells V (wr.heap.size + 1) #[.int .i64 x.payer,.int .i64 x.lo,.int .i64 x.hi,.slice al x.passed.length zc1] 192:=by rw [hV];exact Cells.new' _ _ _ _ (by simp)
            rw [← hV]
            clear hV
            have g0:=G1.cell 0
            have h0:=G2.cell 0
            have g1:=G1.cell 1
            have h1:=G2.cell 1
            have g2:=G1.cell 2
            have h2:=G2.cell 2
            have g3:=G1.cell 3
            have h3:=G2.cell 3
            have lG1:=G1.lt
            have lG2:=G2.lt
            simp at g0 g1 g2 g3 h0 h1 h2 h3
            go_wp2_with fail
            go_at_call 48
            refine (si _ _ _ _ x.passed _ (r1.below bV) (r2.below bV) (by omega)).mono ?_
            rintro e W9 ⟨rfl,b9⟩
            go_wp2_with fail
            go_round
            case rel =>
             rw [rr,rr2]
             repeat (apply Exists.intro)
             refine ⟨?_,rfl⟩
             exact ⟨k + 1,by omega,by go_num,hb.trans ((bV.trans (b9.mono bV.size)).mono hb.size)⟩
            case measure => simp [intOf];omega
          ·obtain rfl:k=S.ds.length:=by omega
           go_wp2_with fail
           go_ret
           exact ⟨rfl,tb⟩
end Go.Proofs.YticjeianiahppaaGreatDoor
