/- book, laws: BookUndone, an entry that came -/
import Derived.Test.YticjeianiahppaaGreatDoorVj
import Derived.Test.YticjeianiahppaaGreatDoorVc
namespace Go.Proofs.YticjeianiahppaaGreatDoor
set_option linter.unusedVariables false
set_option linter.unusedSimpArgs false
set_option linter.unnecessarySimpa false
open Go.RowKit Go.Flow
set_option maxRecDepth 100000 in
set_option maxHeartbeats 20000000 in
theorem bookUndone_no (a:Option Addr) (l:List ByteArray) (c:Nat) (first second:Int) (w:World) (hl:StrsAt w a l) (hn:a=none→c=0) (hm:l.length≤9223372036854775807) (_:l.length≤c) (hfirst:0≤first∧first≤255) (hsecond:0≤second∧second≤255) (hv:Vars w) :
  Calls Tryz.prog 12 #[.slice a l.length c,.int .u8 first,.int .u8 second,.bool false] w fun e w' => e=.returned (.bool true)∧Below w.heap.size w w':=by
 have rd:Calls _ _ #[.slice a l.length c,.int .i64 48] w _:=ready_any a c 48 l w hl hm
 cases hr:readyB l 48
 ·rw [hr] at rd
  clear hr
  go_enter Tryz.func12,Tryz.ntmps12
  go_wp2_with fail
  go_at_call 55
  refine rd.mono ?_
  rintro e W1 ⟨rfl,b1⟩
  go_wp2_with fail
  go_at_call 37
  refine (awake_any W1 (hv.below b1)).mono ?_
  rintro e W2 ⟨rfl,b2⟩
  go_wp2_with fail
  go_ret
  exact ⟨rfl,b1.trans (b2.mono b1.size)⟩
 ·obtain ⟨h0,h48,h50⟩:=ready_ok hr
  rw [hr] at rd
  clear hr
  obtain ⟨p,hp,hpm⟩:=mod_small hfirst.1 5 (by decide)
  obtain ⟨q,hq,hqm⟩:=mod_small hsecond.1 8 (by decide)
  obtain ⟨r,hr,hrm⟩:=mod_small hfirst.1 4 (by decide)
  obtain ⟨t,ht,htm⟩:=mod_small hsecond.1 40 (by decide)
  simp only [Int.cast_ofNat_Int] at hpm hqm hrm htm
  have pw:IntKind.i64.wrap (p:Int)=(p:Int):=IntWalk.i64_in _ (by omega)
  have qw:IntKind.i64.wrap (q:Int)=(q:Int):=IntWalk.i64_in _ (by omega)
  have rw_:IntKind.i64.wrap (r:Int)=(r:Int):=IntWalk.i64_in _ (by omega)
  have tw:IntKind.i64.wrap (t:Int)=(t:Int):=IntWalk.i64_in _ (by omega)
  have fw:IntKind.i64.wrap first=first:=IntWalk.i64_in _ (by omega)
  have sw:IntKind.i64.wrap second=second:=IntWalk.i64_in _ (by omega)
  have nw1:IntKind.i64.wrap ((l.length:Int) + 1)=(l.length:Int) + 1:=IntWalk.i64_in _ (by omega)
  have nw2:IntKind.i64.wrap ((l.length:Int) + 2)=(l.length:Int) + 2:=IntWalk.i64_in _ (by omega)
  have F:=after_few l
  have hlo:=F.lost
  have hjo:=F.journal
  obtain ⟨x1,hx1⟩:∃ x:ByteArray,x=⟨(Lib.itoa (p:Int)).toArray⟩:=⟨_,rfl⟩
  obtain ⟨x2,hx2⟩:∃ x:ByteArray,x=⟨(Lib.itoa (q:Int)).toArray⟩:=⟨_,rfl⟩
  obtain ⟨x3,hx3⟩:∃ x:ByteArray,x=⟨(Lib.itoa ((afterL l).lost.length:Int)).toArray⟩:=⟨_,rfl⟩
  obtain ⟨x4,hx4⟩:∃ x:ByteArray,x=⟨(Lib.itoa (r:Int)).toArray⟩:=⟨_,rfl⟩
  obtain ⟨x5,hx5⟩:∃ x:ByteArray,x=⟨(Lib.itoa (t:Int)).toArray⟩:=⟨_,rfl⟩
  obtain ⟨x6,hx6⟩:∃ x:ByteArray,x=⟨(Lib.itoa ((afterL l).journal.length:Int)).toArray⟩:=⟨_,rfl⟩
  have z1:x1.size≤3:=by rw [hx1];exact itoa_len3 p (by omega)
  have z2:x2.size≤3:=by rw [hx2];exact itoa_len3 q (by omega)
  have z3:x3.size≤3:=by rw [hx3];exact itoa_len3 (afterL l).lost.length (by omega)
  have z4:x4.size≤3:=by rw [hx4];exact itoa_len3 r (by omega)
  have z5:x5.size≤3:=by rw [hx5];exact itoa_len3 t (by omega)
  have z6:x6.size≤3:=by rw [hx6];exact itoa_len3 (afterL l).journal.length (by omega)
  have tx1:=fun W => Text_as (p:Int) x1 W hx1 (by omega)
  have tx2:=fun W => Text_as (q:Int) x2 W hx2 (by omega)
  have tx3:=fun W => Text_as ((afterL l).lost.length:Int) x3 W hx3 (by omega)
  have tx4:=fun W => Text_as (r:Int) x4 W hx4 (by omega)
  have tx5:=fun W => Text_as (t:Int) x5 W hx5 (by omega)
  have tx6:=fun W => Text_as ((afterL l).journal.length:Int) x6 W hx6 (by omega)
  have es1:=lineB2 .lost ⟨#[108,111,115,116,32]⟩ rfl p q x1 x2 hx1 hx2
  have es2:=lineB1 .found ⟨#[102,111,117,110,100,32]⟩ rfl ((afterL l).lost.length:Int) x3 hx3
  have es3:=lineB2 .came ⟨#[99,97,109,101,32]⟩ rfl r t x4 x5 hx4 hx5
  have es4:=lineB1 .strike ⟨#[115,116,114,105,107,101,32]⟩ rfl ((afterL l).journal.length:Int) x6 hx6
  have es5:=lineB2 .skipped ⟨#[115,107,105,112,112,101,100,32]⟩ rfl r t x4 x5 hx4 hx5
  have u1:=undone_lost l h48 h0 p q (by omega) (by omega)
  have u2:=undone_came l h48 h0 Cmd.came (by simp) r t (by omega) (by omega)
  have pl:=fun W (b:Below w.heap.size w W) => played_as a c l.length l W rfl rfl rfl (hl.below b) hn h0 (hv.below b)
  have ls:=fun W (b:Below w.heap.size w W) => list_as a c l.length l W rfl (hl.below b) hn (by omega)
  clear hx1 hx2 hx3 hx4 hx5 hx6 h0
  generalize lineB .lost [(p:Int),(q:Int)]=s1 at es1 u1
  generalize lineB .found [((afterL l).lost.length:Int)]=s2 at es2 u1
  generalize lineB .strike [((afterL l).journal.length:Int)]=s4 at es4 u2
  obtain ⟨s3,hs3⟩:∃ s,s=lineB Cmd.came [(r:Int),(t:Int)]:=⟨_,rfl⟩
  rw [← hs3] at u2
  obtain ⟨M1,hM1⟩:∃ M,M=l ++ [s1,s2]:=⟨_,rfl⟩
  obtain ⟨M2,hM2⟩:∃ M,M=l ++ [s3,s4]:=⟨_,rfl⟩
  rw [← hM1] at u1
  rw [← hM2] at u2
  have hL1:=Lib.hid (show M1.length=l.length + 2 by rw [hM1];simp)
  have hL2:=Lib.hid (show M2.length=l.length + 2 by rw [hM2];simp)
  obtain ⟨R1,hR1⟩:∃ R,playE BSt.begun M1=R:=⟨_,rfl⟩
  obtain ⟨R2,hR2⟩:∃ R,playE BSt.begun M2=R:=⟨_,rfl⟩
  rw [hR1] at u1
  rw [hR2] at u2
  have rl1:=Lib.hid (show R1.length=l.length + 2 by rw [← hR1,playE_len,hL1.out])
  have rl2:=Lib.hid (show R2.length=l.length + 2 by rw [← hR2,playE_len,hL2.out])
  obtain ⟨f1,a1,i1⟩:=u1
  obtain ⟨f2,a2,i2⟩:=u2
  replace i1:=Lib.hid i1
  replace i2:=Lib.hid i2
  replace hM1:=Lib.hid hM1
  replace hM2:=Lib.hid hM2
  replace hs3:=Lib.hid hs3
  have py1:=fun (W:World) (b:Below w.heap.size w W) bz a' c' hb h => play_as (afterL l) R1 bz a' c' (l.length + 2) M1 W a1 hR1 hL1.out f1 h (hv.below b) hb
  have py2:=fun (W:World) (b:Below w.heap.size w W) bz a' c' hb h => play_as (afterL l) R2 bz a' c' (l.length + 2) M2 W a2 hR2 hL2.out f2 h (hv.below b) hb
  clear hR1 hR2 f1 f2 a1 a2
  generalize afterL l=S at *
  unfold PlayedAs at pl
  go_enter Tryz.func12,Tryz.ntmps12
  go_wp2_with fail
  go_at_call 55
  refine rd.mono ?_
  rintro e W1 ⟨rfl,b1⟩
  clear rd
  go_wp2_with fail
  go_at_call 56
  refine (pl W1 b1).mono ?_
  rintro e W2 ⟨⟨A,a2,c2,rfl,hA,_⟩,b2⟩
  have t2:=b1.trans (b2.mono b1.size)
  clear b1 b2 pl
  go_upto_region 4 with fail
  obtain ⟨V,hV⟩:∃ x:World,x=W2.alloc (.cells (stCells S A) 57):=⟨_,rfl⟩
  have bv:Below W2.heap.size W2 V:=by rw [hV];exact Joins.below_alloc1 _ _
  have C:Cells V W2.heap.size (stCells S A) 57:=by rw [hV];exact Cells.new _ _ _
  change Code.wp _ _ _ _ (W2.alloc (.cells (stCells S A) 57))
  rw [← hV]
  clear hV
  have tv:=t2.trans (bv.mono t2.size)
  replace hA:=hA.below bv
  generalize W2.heap.size=g at C ⊢
  clear bv t2
  have k4:=C.cell 4
  have k6:=C.cell 8
  have lC:=C.lt
  simp at k4 k6
  have T4:=And.intro tx4 (And.intro tx5 tx6)
  have PY:=And.intro py1 py2
  clear tx4 tx5 tx6 py1 py2
  (refine wp_region_ext 18 (by kernel_rfl) (by kernel_rfl) ?_;simp only [List.take_succ_cons,List.take_zero,List.drop_succ_cons,List.drop_zero];(repeat (go_big_quiet_step ((first | (go_at_call 63;with_reducible refine Calls_ext (tx1 _)) | (go_at_call 63;with_reducible refine Calls_ext (tx2 _)) | (go_at_call 63;with_reducible refine Calls_ext (tx3 _))))));refine wpQuiet_nil ?_;rintro _ ⟨ex,rfl⟩;have hex:=ex.below;have hexz:=ex.size;(try simp at hexz);(try (have hy0:w.heap.size < ex.to.heap.size:=by omega));(try (have hy1:w.heap.size + 1 < ex.to.heap.size:=by omega));(try (have hy2:w.heap.size + 2 < ex.to.heap.size:=by omega)))
  obtain ⟨V2,hX⟩:∃ z:World,z=ex.to:=⟨_,rfl⟩
  rw [← hX] at hex ⊢
  clear hX hexz
  have t4:=tv.trans (hex.mono tv.size)
  replace C:=C.below hex
  replace hA:=hA.below hex
  replace lC:=C.lt
  clear tv
  have k4:=0
  replace k6:=C.cell 8
  simp at k6
  clear hex k4
  obtain ⟨tx4,tx5,tx6⟩:=T4
  go_upto_region 5 with fail
  (refine wp_region_ext 18 (by kernel_rfl) (by kernel_rfl) ?_;simp only [List.take_succ_cons,List.take_zero,List.drop_succ_cons,List.drop_zero];(repeat (go_big_quiet_step ((first | (go_at_call 63;with_reducible refine Calls_ext (tx4 _)) | (go_at_call 63;with_reducible refine Calls_ext (tx5 _)) | (go_at_call 63;with_reducible refine Calls_ext (tx6 _))))));refine wpQuiet_nil ?_;rintro _ ⟨ex,rfl⟩;have hex:=ex.below;have hexz:=ex.size;(try simp at hexz);(try (have hy0:w.heap.size < ex.to.heap.size:=by omega));(try (have hy1:w.heap.size + 1 < ex.to.heap.size:=by omega));(try (have hy2:w.heap.size + 2 < ex.to.heap.size:=by omega)))
  obtain ⟨V3,hX⟩:∃ z:World,z=ex.to:=⟨_,rfl⟩
  rw [← hX] at hex ⊢
  clear hX hexz
  have t5:=t4.trans (hex.mono t4.size)
  replace C:=C.below hex
  replace hA:=hA.below hex
  replace lC:=C.lt
  clear t4
  clear hex k6 tx1 tx2 tx3 tx6
  ·have e3:lineB .came [(r:Int),(t:Int)]=s3:=by rw [hs3.out]
   try rw [e3]
   obtain ⟨Y2,hY2⟩:∃ z:World,z=V3:=⟨_,rfl⟩
   rw [← hY2] at t5 C hA ⊢
   clear hY2
   have t6:=t5
   clear t5
   clear tx4 tx5 es1 es2 es3 es4 es5
   obtain ⟨py1,py2⟩:=PY
   replace lC:=C.lt
   go_wp2_with fail
   go_at_call 38
   refine (ls Y2 t6).mono ?_
   rintro e X ⟨⟨a7,c7,rfl,o7⟩,b7⟩
   have b8:Below X.heap.size X (X.alloc (.cells #[.string s1,.string s2] 9)):=Joins.below_alloc1 _ _
   have src:SrcAt (X.alloc (.cells #[.string s1,.string s2] 9)) (some ⟨X.heap.size,0,none⟩) [.string s1,.string s2]:=fun j u hu => by
    match j,hu with
    | 0,hu => simp at hu;subst hu;exact ⟨_,0,rfl,by simp⟩
    | 1,hu => simp at hu;subst hu;exact ⟨_,0,rfl,by simp⟩
    | j + 2,hu => simp at hu
   go_wp2_with (at_builtin;refine wpList_app elStr rfl _ _ rfl Y2.heap.size _ _ _ _ rfl (o7.kept b8) (some ⟨X.heap.size,0,none⟩) 2 2 [.string s1,.string s2] rfl (fun h => by cases h) (by simp) src (fun u hu => by simp at hu;rcases hu with rfl | rfl <;> rfl) (by unfold maxLen;omega) (by omega) (by have:=b7.size;simp;omega) ?_)
   intro a8 c8 W8 o8 b9
   have b10:Below Y2.heap.size Y2 W8:=(b7.trans (b8.mono b7.size)).trans b9
   replace o8:OwnL 9 1 Y2.heap.size W8 a8 c8 (l.length + 2) (M1.map Value.string):=by rw [hM1.out,List.map_append];exact o8
   replace C:=C.below b10
   replace hA:=hA.below b10
   have t8:=t6.trans (b10.mono t6.size)
   clear src b7 b8 b9 b10 o7 t6
   replace lC:=C.lt
   go_wp2_with fail
   go_at_call 28
   refine (py1 W8 t8 g a8 c8 lC o8.strs).mono ?_
   rintro e W9 ⟨⟨A1,b1,d1,rfl,hA1,h1⟩,b11⟩
   replace C:=C.below b11
   replace hA:=hA.below b11
   have t9:=t8.trans (b11.mono t8.size)
   clear b11 t8 o8
   go_upto_region 9 with fail
   obtain ⟨V4,hV⟩:∃ x:World,x=W9.alloc (.cells (stCells S A1) 57):=⟨_,rfl⟩
   have bv:Below W9.heap.size W9 V4:=by rw [hV];exact Joins.below_alloc1 _ _
   have C1:Cells V4 W9.heap.size (stCells S A1) 57:=by rw [hV];exact Cells.new _ _ _
   change Code.wp _ _ _ _ (W9.alloc (.cells (stCells S A1) 57))
   rw [← hV]
   clear hV
   have t7:=t9.trans (bv.mono t9.size)
   replace C:=C.below bv
   replace hA:=hA.below bv
   replace hA1:=hA1.below bv
   replace h1:=h1.below bv
   generalize W9.heap.size=gV4 at C1 ⊢
   clear bv t9
   replace lC:=C.lt
   have lC1:=C1.lt
   go_wp2_with fail
   go_at_call 38
   refine (ls V4 t7).mono ?_
   rintro e X ⟨⟨a7,c7,rfl,o7⟩,b7⟩
   have b8:Below X.heap.size X (X.alloc (.cells #[.string s3,.string s4] 9)):=Joins.below_alloc1 _ _
   have src:SrcAt (X.alloc (.cells #[.string s3,.string s4] 9)) (some ⟨X.heap.size,0,none⟩) [.string s3,.string s4]:=fun j u hu => by
    match j,hu with
    | 0,hu => simp at hu;subst hu;exact ⟨_,0,rfl,by simp⟩
    | 1,hu => simp at hu;subst hu;exact ⟨_,0,rfl,by simp⟩
    | j + 2,hu => simp at hu
   go_wp2_with (at_builtin;refine wpList_app elStr rfl _ _ rfl V4.heap.size _ _ _ _ rfl (o7.kept b8) (some ⟨X.heap.size,0,none⟩) 2 2 [.string s3,.string s4] rfl (fun h => by cases h) (by simp) src (fun u hu => by simp at hu;rcases hu with rfl | rfl <;> rfl) (by unfold maxLen;omega) (by omega) (by have:=b7.size;simp;omega) ?_)
   intro a8 c8 W8 o8 b9
   have b10:Below V4.heap.size V4 W8:=(b7.trans (b8.mono b7.size)).trans b9
   replace o8:OwnL 9 1 V4.heap.size W8 a8 c8 (l.length + 2) (M2.map Value.string):=by rw [hM2.out,List.map_append];exact o8
   replace C:=C.below b10
   replace hA:=hA.below b10
   replace C1:=C1.below b10
   replace hA1:=hA1.below b10
   replace h1:=h1.below b10
   have t8:=t7.trans (b10.mono t7.size)
   clear src b7 b8 b9 b10 o7 t7
   replace lC:=C.lt
   go_wp2_with fail
   go_at_call 28
   refine (py2 W8 t8 g a8 c8 lC o8.strs).mono ?_
   rintro e W9 ⟨⟨A2,b2,d2,rfl,hA2,h2⟩,b11⟩
   replace C:=C.below b11
   replace hA:=hA.below b11
   replace C1:=C1.below b11
   replace hA1:=hA1.below b11
   replace h1:=h1.below b11
   have t9:=t8.trans (b11.mono t8.size)
   clear b11 t8 o8
   go_upto_region 10 with fail
   obtain ⟨V5,hV⟩:∃ x:World,x=W9.alloc (.cells (stCells S A2) 57):=⟨_,rfl⟩
   have bv:Below W9.heap.size W9 V5:=by rw [hV];exact Joins.below_alloc1 _ _
   have C2:Cells V5 W9.heap.size (stCells S A2) 57:=by rw [hV];exact Cells.new _ _ _
   change Code.wp _ _ _ _ (W9.alloc (.cells (stCells S A2) 57))
   rw [← hV]
   clear hV
   have t10:=t9.trans (bv.mono t9.size)
   replace C:=C.below bv
   replace hA:=hA.below bv
   replace C1:=C1.below bv
   replace hA1:=hA1.below bv
   replace h1:=h1.below bv
   replace hA2:=hA2.below bv
   replace h2:=h2.below bv
   generalize W9.heap.size=gV5 at C2 ⊢
   clear bv t9
   replace lC:=C.lt
   have lC2:=C2.lt
   replace lC1:=C1.lt
   have k0:=C.cell 0
   have k1:=C.cell 1
   have k2:=C.cell 2
   have k3:=C.cell 3
   have k4:=C.cell 4
   have k5:=C.cell 5
   have k6:=C.cell 6
   have k7:=C.cell 7
   have k8:=C.cell 8
   have k9:=C.cell 9
   have k10:=C.cell 10
   have k11:=C.cell 11
   have k12:=C.cell 12
   simp at k0 k1 k2 k3 k4 k5 k6 k7 k8 k9 k10 k11 k12
   have m0:=C1.cell 0
   have m1:=C1.cell 1
   have m2:=C1.cell 2
   have m3:=C1.cell 3
   have m4:=C1.cell 4
   have m5:=C1.cell 5
   have m6:=C1.cell 6
   have m7:=C1.cell 7
   have m8:=C1.cell 8
   have m9:=C1.cell 9
   have m10:=C1.cell 10
   have m11:=C1.cell 11
   have m12:=C1.cell 12
   simp at m0 m1 m2 m3 m4 m5 m6 m7 m8 m9 m10 m11 m12
   have n0:=C2.cell 0
   have n1:=C2.cell 1
   have n2:=C2.cell 2
   have n3:=C2.cell 3
   have n4:=C2.cell 4
   have n5:=C2.cell 5
   have n6:=C2.cell 6
   have n7:=C2.cell 7
   have n8:=C2.cell 8
   have n9:=C2.cell 9
   have n10:=C2.cell 10
   have n11:=C2.cell 11
   have n12:=C2.cell 12
   simp at n0 n1 n2 n3 n4 n5 n6 n7 n8 n9 n10 n11 n12
   have ss1:=fun (W:World) (b:Below V5.heap.size V5 W) => same_same S A1 A W (hA1.below b) (hA.below b) F
   have ss2:=fun (W:World) (b:Below V5.heap.size V5 W) => same_same S A2 A W (hA2.below b) (hA.below b) F
   have aw:=fun (W:World) (b:Below V5.heap.size V5 W) => awake_any W (hv.below (t10.trans (b.mono t10.size)))
   obtain ⟨q1,f1,rfl,z1,p1⟩:=h1 l.length (by have:=rl1.out;omega)
   obtain ⟨q1',f1',e1,z1',p1'⟩:=h1 (l.length + 1) (by have:=rl1.out;omega)
   simp only [Option.some.injEq,Addr.mk.injEq,and_true] at e1
   obtain ⟨rfl,rfl⟩:=e1
   obtain ⟨q2,f2,rfl,z2,p2⟩:=h2 l.length (by have:=rl2.out;omega)
   obtain ⟨q2',f2',e2,z2',p2'⟩:=h2 (l.length + 1) (by have:=rl2.out;omega)
   simp only [Option.some.injEq,Addr.mk.injEq,and_true] at e2
   obtain ⟨rfl,rfl⟩:=e2
   replace i1:=i1.out
   replace i2:=i2.out
   generalize R1.getD l.length 0=u1 at p1 i1
   generalize R1.getD (l.length + 1) 0=u1' at p1' i1
   generalize R2.getD l.length 0=u2 at p2 i2
   generalize R2.getD (l.length + 1) 0=u2' at p2' i2
   have hn0:(0:Int)≤(l.length:Int):=by omega
   have hn1:(0:Int)≤(l.length:Int) + 1:=by omega
   have hn2:(l.length:Int) < (l.length:Int) + 2:=by omega
   have hn3:(l.length:Int) + 1 < (l.length:Int) + 2:=by omega
   clear h1 h2 hA hA1 hA2 rl1 rl2 C C1 C2 py1 py2 ls
   by_cases c1:u1=0
   ·have c1' : u1'=0:=i1.1 c1
    subst c1 c1'
    clear i1
    by_cases c2:u2=0
    ·have c2' : u2'=0:=i2.1 c2
     subst c2 c2'
     clear i2
     go_upto_region 13 with fail
     (refine wp_region_ext 40 (by kernel_rfl) (by kernel_rfl) ?_;simp only [List.take_succ_cons,List.take_zero,List.drop_succ_cons,List.drop_zero];(repeat (go_big_quiet_step ((first | (go_at_call 57;with_reducible refine Calls_ext (ss1 _ (Ext.below _))) | (go_at_call 57;with_reducible refine Calls_ext (ss2 _ (Ext.below _))) | (go_at_call 37;with_reducible refine Calls_ext (aw _ (Ext.below _)))))));refine wpQuiet_nil ?_;rintro _ ⟨ex,rfl⟩;have hex:=ex.below;have hexz:=ex.size;(try simp at hexz);(try (have hy0:w.heap.size < ex.to.heap.size:=by omega));(try (have hy1:w.heap.size + 1 < ex.to.heap.size:=by omega));(try (have hy2:w.heap.size + 2 < ex.to.heap.size:=by omega)))
     obtain ⟨W,hX⟩:∃ z:World,z=ex.to:=⟨_,rfl⟩
     rw [← hX] at hex ⊢
     clear hX hexz
     go_wp2_with fail
     go_ret
     exact ⟨rfl,t10.trans (hex.mono t10.size)⟩
    ·have c2' : ¬ (u2'=0):=fun e => c2 (i2.2 e)
     have y2:(u2 == 0)=false:=by simpa using c2
     have y2' : (u2' == 0)=false:=by simpa using c2'
     clear i2
     go_upto_region 13 with fail
     (refine wp_region_ext 40 (by kernel_rfl) (by kernel_rfl) ?_;simp only [List.take_succ_cons,List.take_zero,List.drop_succ_cons,List.drop_zero];(repeat (go_big_quiet_step ((first | (go_at_call 57;with_reducible refine Calls_ext (ss1 _ (Ext.below _))) | (go_at_call 57;with_reducible refine Calls_ext (ss2 _ (Ext.below _))) | (go_at_call 37;with_reducible refine Calls_ext (aw _ (Ext.below _)))))));refine wpQuiet_nil ?_;rintro _ ⟨ex,rfl⟩;have hex:=ex.below;have hexz:=ex.size;(try simp at hexz);(try (have hy0:w.heap.size < ex.to.heap.size:=by omega));(try (have hy1:w.heap.size + 1 < ex.to.heap.size:=by omega));(try (have hy2:w.heap.size + 2 < ex.to.heap.size:=by omega)))
     obtain ⟨W,hX⟩:∃ z:World,z=ex.to:=⟨_,rfl⟩
     rw [← hX] at hex ⊢
     clear hX hexz
     go_wp2_with fail
     go_ret
     exact ⟨rfl,t10.trans (hex.mono t10.size)⟩
   ·have c1' : ¬ (u1'=0):=fun e => c1 (i1.2 e)
    have y1:(u1 == 0)=false:=by simpa using c1
    have y1' : (u1' == 0)=false:=by simpa using c1'
    clear i1
    by_cases c2:u2=0
    ·have c2' : u2'=0:=i2.1 c2
     subst c2 c2'
     clear i2
     go_upto_region 13 with fail
     (refine wp_region_ext 40 (by kernel_rfl) (by kernel_rfl) ?_;simp only [List.take_succ_cons,List.take_zero,List.drop_succ_cons,List.drop_zero];(repeat (go_big_quiet_step ((first | (go_at_call 57;with_reducible refine Calls_ext (ss1 _ (Ext.below _))) | (go_at_call 57;with_reducible refine Calls_ext (ss2 _ (Ext.below _))) | (go_at_call 37;with_reducible refine Calls_ext (aw _ (Ext.below _)))))));refine wpQuiet_nil ?_;rintro _ ⟨ex,rfl⟩;have hex:=ex.below;have hexz:=ex.size;(try simp at hexz);(try (have hy0:w.heap.size < ex.to.heap.size:=by omega));(try (have hy1:w.heap.size + 1 < ex.to.heap.size:=by omega));(try (have hy2:w.heap.size + 2 < ex.to.heap.size:=by omega)))
     obtain ⟨W,hX⟩:∃ z:World,z=ex.to:=⟨_,rfl⟩
     rw [← hX] at hex ⊢
     clear hX hexz
     go_wp2_with fail
     go_ret
     exact ⟨rfl,t10.trans (hex.mono t10.size)⟩
    ·have c2' : ¬ (u2'=0):=fun e => c2 (i2.2 e)
     have y2:(u2 == 0)=false:=by simpa using c2
     have y2' : (u2' == 0)=false:=by simpa using c2'
     clear i2
     go_upto_region 13 with fail
     (refine wp_region_ext 40 (by kernel_rfl) (by kernel_rfl) ?_;simp only [List.take_succ_cons,List.take_zero,List.drop_succ_cons,List.drop_zero];(repeat (go_big_quiet_step ((first | (go_at_call 57;with_reducible refine Calls_ext (ss1 _ (Ext.below _))) | (go_at_call 57;with_reducible refine Calls_ext (ss2 _ (Ext.below _))) | (go_at_call 37;with_reducible refine Calls_ext (aw _ (Ext.below _)))))));refine wpQuiet_nil ?_;rintro _ ⟨ex,rfl⟩;have hex:=ex.below;have hexz:=ex.size;(try simp at hexz);(try (have hy0:w.heap.size < ex.to.heap.size:=by omega));(try (have hy1:w.heap.size + 1 < ex.to.heap.size:=by omega));(try (have hy2:w.heap.size + 2 < ex.to.heap.size:=by omega)))
     obtain ⟨W,hX⟩:∃ z:World,z=ex.to:=⟨_,rfl⟩
     rw [← hX] at hex ⊢
     clear hX hexz
     go_wp2_with fail
     go_ret
     exact ⟨rfl,t10.trans (hex.mono t10.size)⟩
end Go.Proofs.YticjeianiahppaaGreatDoor
