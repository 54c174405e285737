/- book, laws: same of one state at two places -/
import Derived.Test.YticjeianiahppaaGreatDoorDF
namespace Go.Proofs.YticjeianiahppaaGreatDoor
set_option linter.unusedVariables false
set_option linter.unusedSimpArgs false
set_option linter.unnecessarySimpa false
open Go.RowKit Go.Flow
set_option maxRecDepth 100000 in
set_option maxHeartbeats 4000000 in
theorem alike_same (r:Cps.Route) (al am:Option Addr) (c d:Nat) (w:World) (h:ListOf 3 RL w al r.legs) (h' : ListOf 3 RL w am r.legs) (hn:r.legs.length≤1000) (hs:∀ x ∈ r.legs,x.asl.length≤1000) :
  Calls Tryz.prog 112 #[.agg #[.slice al r.legs.length c,.bool r.lossy],.agg #[.slice am r.legs.length d,.bool r.lossy]] w fun e w' => e=.returned (.bool true)∧Below w.heap.size w w':=by
 obtain ⟨W0,hW0⟩:∃ z:World,z=(w.alloc (.cells #[.slice al r.legs.length c,.bool r.lossy] 150)).alloc (.cells #[.slice am r.legs.length d,.bool r.lossy] 150):=⟨_,rfl⟩
 have t0:Below w.heap.size w W0:=by rw [hW0];exact ((Below.refl _ _).alloc (Nat.le_refl _) _).alloc (by simp) _
 have C0:Cells W0 w.heap.size #[.slice al r.legs.length c,.bool r.lossy] 150:=by rw [hW0];exact (Cells.new _ _ _).alloc _
 have D0:Cells W0 (w.heap.size + 1) #[.slice am r.legs.length d,.bool r.lossy] 150:=by rw [hW0];exact Cells.new' _ _ _ _ (by simp)
 obtain ⟨legs,lossy⟩:=r
 simp only at h h' hn hs hW0 C0 D0
 go_enter Tryz.func112,Tryz.ntmps112
 go_upto_region 1 with fail
 rw [← hW0]
 clear hW0
 have k0:=C0.cell 0
 have k1:=C0.cell 1
 have m0:=D0.cell 0
 have m1:=D0.cell 1
 have lC:=C0.lt
 have lD:=D0.lt
 simp at k0 k1 m0 m1
 go_wp2_with fail
 go_loopw [5] (fun i X => ∃ k:Nat,k≤legs.length∧i=.int .i64 k∧Below W0.heap.size W0 X) (fun i _ => legs.length - (intOf i).toNat)
 case atStart => exact ⟨0,Nat.zero_le _,rfl,Below.refl _ _⟩
 case round =>
  obtain ⟨k,hk,rfl,hb⟩:=hrel
  have tb:=t0.trans (hb.mono t0.size)
  have k0:=(C0.below hb).cell 0
  have m0:=(D0.below hb).cell 0
  have lC:=(C0.below hb).lt
  have lD:=(D0.below hb).lt
  simp at k0 m0
  by_cases hlt:k < legs.length
  ·have hkI:(k:Int) < (legs.length:Int):=by omega
   have hk0:(0:Int)≤(k:Int):=by omega
   have iw:IntKind.i64.wrap ((k:Int) + 1)=(k:Int) + 1:=IntWalk.i64_in _ (by omega)
   obtain ⟨b1,f1,cs1,rfl,l1,_,⟨ar,cr,rfl,rr,_⟩,c1⟩:=(h.below staysL tb).cell hlt (by omega)
   obtain ⟨b2,f2,cs2,rfl,l2,_,⟨ar',cr',rfl,rr',_⟩,c2⟩:=(h'.below staysL tb).cell hlt (by omega)
   have p0:=c1 0 _ rfl
   have p1:=c1 1 _ rfl
   have p2:=c1 2 _ rfl
   have q0:=c2 0 _ rfl
   have q1:=c2 1 _ rfl
   have q2:=c2 2 _ rfl
   clear c1 c2
   simp only [Nat.add_zero] at p0 q0
   have hx1:=hs legs[k] (List.getElem_mem hlt)
   generalize legs[k]=x at *
   go_upto_region 6 with fail
   (refine wp_region_ext 30 (by kernel_rfl) (by kernel_rfl) ?_;simp only [List.take_succ_cons,List.take_zero,List.drop_succ_cons,List.drop_zero];(repeat (go_big_quiet_step ((fail))));refine wpQuiet_nil ?_;rintro _ ⟨ex,rfl⟩;have hex:=ex.below;have hexz:=ex.size;(try simp at hexz);(try (have hy0:w.heap.size < ex.to.heap.size:=by omega));(try (have hy1:w.heap.size + 1 < ex.to.heap.size:=by omega));(try (have hy2:w.heap.size + 2 < ex.to.heap.size:=by omega)))
   obtain ⟨w1,hX⟩:∃ z:World,z=ex.to:=⟨_,rfl⟩
   rw [← hX] at hex ⊢
   clear hX hexz
   have hb1:=hb.trans (hex.mono hb.size)
   have tb1:=t0.trans (hb1.mono t0.size)
   have k0:=(C0.below hb1).cell 0
   have m0:=(D0.below hb1).cell 0
   have lC:=(C0.below hb1).lt
   have lD:=(D0.below hb1).lt
   have p2:=below_cell hex p2
   have q2:=below_cell hex q2
   have l3:=cell_lt p2
   have l4:=cell_lt q2
   have rr:=rr.below hex
   have rr':=rr'.below hex
   simp at k0 m0
   go_wp2_with fail
   go_loopw [6] (fun i X => ∃ k:Nat,k≤x.asl.length∧i=.int .i64 k∧Below w1.heap.size w1 X) (fun i _ => x.asl.length - (intOf i).toNat)
   case atStart => exact ⟨0,Nat.zero_le _,rfl,Below.refl _ _⟩
   case round =>
    obtain ⟨j,hj,rfl,hbj⟩:=hrel
    have hb2:=hb1.trans (hbj.mono hb1.size)
    have tb2:=t0.trans (hb2.mono t0.size)
    have k0:=(C0.below hb2).cell 0
    have m0:=(D0.below hb2).cell 0
    have lC:=(C0.below hb2).lt
    have lD:=(D0.below hb2).lt
    have p2:=below_cell hbj p2
    have q2:=below_cell hbj q2
    have l3:=cell_lt p2
    have l4:=cell_lt q2
    simp at k0 m0
    by_cases hjt:j < x.asl.length
    ·have hjI:(j:Int) < (x.asl.length:Int):=by omega
     have hj0:(0:Int)≤(j:Int):=by omega
     have jw:IntKind.i64.wrap ((j:Int) + 1)=(j:Int) + 1:=IntWalk.i64_in _ (by omega)
     obtain ⟨g1,e1,rfl,n1,u0,u1⟩:=(rr.below hbj) j hjt
     obtain ⟨g2,e2,rfl,n2,v0,v1⟩:=(rr'.below hbj) j hjt
     go_upto_region 11 with fail
     (refine wp_region_ext 19 (by kernel_rfl) (by kernel_rfl) ?_;simp only [List.take_succ_cons,List.take_zero,List.drop_succ_cons,List.drop_zero];(repeat (go_big_quiet_step ((fail))));refine wpQuiet_nil ?_;rintro _ ⟨ex,rfl⟩;have hex:=ex.below;have hexz:=ex.size;(try simp at hexz);(try (have hy0:w.heap.size < ex.to.heap.size:=by omega));(try (have hy1:w.heap.size + 1 < ex.to.heap.size:=by omega));(try (have hy2:w.heap.size + 2 < ex.to.heap.size:=by omega)))
     obtain ⟨w2,hX⟩:∃ z:World,z=ex.to:=⟨_,rfl⟩
     rw [← hX] at hex ⊢
     clear hX hexz
     go_wp2_with fail
     go_round
     case rel => exact ⟨j + 1,by omega,by go_num,hbj.trans (hex.mono hbj.size)⟩
     case measure => simp [intOf];omega
    ·obtain rfl:j=x.asl.length:=by omega
     go_wp2_with fail
     go_round
     case rel => exact ⟨k + 1,by omega,by go_num,hb2⟩
     case measure => simp [intOf];omega
  ·obtain rfl:k=legs.length:=by omega
   go_wp2
   go_ret
   exact ⟨rfl,tb⟩
end Go.Proofs.YticjeianiahppaaGreatDoor
