/- The session book: contracts of the program and of the laws' helpers, joined (Nm, Nn). -/
import Derived.Test.YticjeianiahppaaGreatDoorDD
import Derived.Test.YticjeianiahppaaGreatDoorDC
import Derived.Laws.IdiomStrings
set_option linter.unusedVariables false
set_option linter.unusedSimpArgs false
set_option linter.unnecessarySimpa false
set_option maxRecDepth 100000
set_option maxHeartbeats 40000000
namespace Go.Proofs.YticjeianiahppaaGreatDoor
open Go.RowKit Go.Flow
theorem OwnL.strs {base:Nat} {w:World} {a:Option Addr} {c n:Nat} {l:List ByteArray} (h:OwnL 9 1 base w a c n (l.map Value.string)):zAs w a l:=fun k hk => by
 obtain ⟨b,off,ha,hc⟩:=SrcAt.own h k (.string l[k]) (by simp [hk])
 exact ⟨b,off,ha,zBl hc,hc⟩
theorem zAs.src {w:World} {a:Option Addr} {l:List ByteArray} (h:zAs w a l):SrcAt w a (l.map Value.string):=fun j u hu => by
 have hj:j < l.length:=by have:=(List.getElem?_eq_some_iff.1 hu).1;simpa using this
 obtain ⟨b,off,ha,_,hc⟩:=h j hj
 have:u=.string l[j]:=by simp [hj] at hu;exact hu.symm
 exact ⟨b,off,ha,by rw [this];exact hc⟩
theorem zJ1 (l:List ByteArray):∀ u ∈ l.map Value.string,u.oneCell'=true:=fun u hu => by
 obtain ⟨x,_,rfl⟩:=List.mem_map.1 hu;rfl
theorem zFH (a:Option Addr) (c:Nat) (l:List ByteArray) (w:World) (hl:zAs w a l) (hn:a=none→c=0) (h:l.length≤100000) :
  Calls Tryz.prog 38 #[.slice a l.length c] w fun e w' => (∃ a' c',e=.returned (.slice a' l.length c')∧OwnL 9 1 w.heap.size w' a' c' l.length (l.map Value.string))∧Below w.heap.size w w':=by
 have hn2:a=none→l.length=0∧c=0:=fun e => ⟨(by
  cases hl0:l with
  | nil => rfl
  | cons x r =>
   obtain ⟨b,off,ha,_⟩:=hl 0 (by rw [hl0];simp)
   rw [e] at ha;cases ha),hn e⟩
 have hb0:Below w.heap.size w (w.alloc (.cells #[] 9)):=Joins.below_alloc1 _ _
 go_enter Tryz.func38,Tryz.ntmps38
 go_wp2_with (at_builtin;refine zA2 zIN rfl _ _ rfl w.heap.size _ _ _ _ rfl (OwnL.lit #[] (Nat.le_refl _) (by decide) rfl) a l.length c (l.map Value.string) rfl hn2 (by simp) (zAO hl.src hb0) (zJ1 l) (by unfold maxLen;omega) (by omega) hb0.size ?_)
 intro a' c' w' h1 h2
 go_wp2
 go_ret
 exact ⟨⟨a',c',by simp,by simpa using h1⟩,hb0.trans h2⟩
theorem zQa:(zBC.map Value.string).toArray.size=20:=rfl
theorem zJV (a:Option Addr) (c:Nat) (l:List ByteArray) (w:World) (hl:zAs w a l) (hn:a=none→l.length=0∧c=0) (h:l.length≤1000) :
  Calls Tryz.prog 97 #[.slice a l.length c] w fun e w' => (∃ a' c',e=.returned (.slice a' (20 + l.length) c')∧OwnL 9 1 w.heap.size w' a' c' (20 + l.length) ((zBC ++ l).map Value.string))∧Below w.heap.size w w':=by
 go_enter Tryz.func97,Tryz.ntmps97
 go_upto_region 2 with fail
 obtain ⟨W,hW⟩:∃ x:World,x=w.alloc (.cells (zBC.map Value.string).toArray 9):=⟨_,rfl⟩
 have hb0:Below w.heap.size w W:=by rw [hW];exact Joins.below_alloc1 _ _
 have o0:OwnL 9 1 w.heap.size W (some ⟨w.heap.size,0,none⟩) 20 20 (zBC.map Value.string):=by
  rw [hW];exact OwnL.lit (zBC.map Value.string).toArray (Nat.le_refl _) (by decide) rfl
 change Code.wp _ _ _ _ (w.alloc (.cells (zBC.map Value.string).toArray 9))
 rw [← hW]
 clear hW
 go_wp2_with (at_builtin;refine zA2 zIN rfl _ _ rfl w.heap.size _ _ _ _ rfl o0 a l.length c (l.map Value.string) rfl hn (by simp) (zAO hl.src hb0) (zJ1 l) (by unfold maxLen;omega) (by omega) hb0.size ?_)
 intro a' c' w' h1 h2
 go_wp2
 go_ret
 exact ⟨⟨a',c',rfl,by rw [List.map_append];exact h1⟩,hb0.trans h2⟩
theorem zJo (a b:Option Addr) (c d:Nat) (x y:List Int) (w:World) (hx:IntsAt w a x) (hy:IntsAt w b y) (h:x.length≤1000) :
  Calls Tryz.prog 48 #[.slice a x.length c,.slice b y.length d] w fun e w' => e=.returned (.bool (decide (x=y)))∧Below w.heap.size w w':=by
 by_cases hl:x.length=y.length
 ·have hlI:((x.length:Int) != (y.length:Int))=false:=by simp;omega
  go_enter Tryz.func48,Tryz.ntmps48
  go_wp2_with fail
  go_loopw [5] (fun i X => ∃ k:Nat,k≤x.length∧i=.int .i64 k∧(∀ j,j < k→x.getD j 0=y.getD j 0)∧Below w.heap.size w X) (fun i _ => x.length - (intOf i).toNat)
  case atStart => exact ⟨0,Nat.zero_le _,rfl,fun j hj => absurd hj (Nat.not_lt_zero _),Below.refl _ _⟩
  case round =>
   obtain ⟨k,hk,rfl,he,hb⟩:=hrel
   have He:=Lib.hid he
   clear he
   by_cases hlt:k < x.length
   ·have hlt2:k < y.length:=by omega
    have hkI:(k:Int) < (x.length:Int):=by omega
    have hkI2:(k:Int) < (y.length:Int):=by omega
    have hk0:(0:Int)≤(k:Int):=by omega
    have iw:IntKind.i64.wrap ((k:Int) + 1)=(k:Int) + 1:=IntWalk.i64_in _ (by omega)
    obtain ⟨b1,f1,rfl,l1,c1⟩:=(hx.below hb) k hlt
    obtain ⟨b2,f2,rfl,l2,c2⟩:=(hy.below hb) k hlt2
    obtain ⟨u,hu⟩:∃ u,x.getD k 0=u:=⟨_,rfl⟩
    obtain ⟨v,hv⟩:∃ v,y.getD k 0=v:=⟨_,rfl⟩
    rw [hu] at c1
    rw [hv] at c2
    have HU:=Lib.hid hu
    have HV:=Lib.hid hv
    clear hu hv
    go_upto_region 6 with fail
    (refine zAC 9 (by kernel_rfl) (by kernel_rfl) ?_;simp only [zzA,zzB,zzC,zzD];(repeat (go_big_quiet_step ((fail))));refine wpQuiet_nil ?_;rintro _ ⟨ex,rfl⟩;have hex:=ex.below;have hexz:=ex.size;(try simp at hexz);(try (have hy0:w.heap.size < ex.to.heap.size:=by omega));(try (have hy1:w.heap.size + 1 < ex.to.heap.size:=by omega));(try (have hy2:w.heap.size + 2 < ex.to.heap.size:=by omega)))
    obtain ⟨w1,hX⟩:∃ z:World,z=ex.to:=⟨_,rfl⟩
    rw [← hX] at hex ⊢
    clear hX hexz
    have hb1:=hb.trans (hex.mono hb.size)
    obtain ⟨q,hq⟩:∃ q,(u != v)=q:=⟨_,rfl⟩
    rw [hq]
    cases q
    ·have huv:u=v:=by simpa using hq
     go_wp2
     go_round
     case rel => exact ⟨k + 1,by omega,by go_num,fun j hj => by
      by_cases e:j=k
      ·subst e;rw [HU.out,HV.out,huv]
      ·exact He.out j (by omega),hb1⟩
     case measure => simp [intOf];omega
    ·have huv:u≠v:=by simpa using hq
     go_wp2
     go_ret
     have hne:x≠y:=fun e => huv (by rw [← HU.out,← HV.out,e])
     exact ⟨by simp [hne],hb1⟩
   ·obtain rfl:k=x.length:=by omega
    go_wp2
    go_ret
    have e:x=y:=List.ext_getElem hl fun j h1 h2 => by
     have:=He.out j h1
     rwa [List.getD_eq_getElem?_getD,List.getD_eq_getElem?_getD,List.getElem?_eq_getElem h1,List.getElem?_eq_getElem h2] at this
    exact ⟨by simp [e],hb⟩
 ·have hlI:((x.length:Int) != (y.length:Int))=true:=by simp;omega
  have hne:x≠y:=fun e => hl (by rw [e])
  go_enter Tryz.func48,Tryz.ntmps48
  go_wp2
  go_ret
  exact ⟨by simp [hne],Below.refl _ _⟩
theorem zJi (w:World) (l:List ByteArray) (n:Nat) (h:n=l.length) (hn:n≤1000):zAs (w.alloc (.cells (l.map Value.string).toArray 9)) (some ⟨w.heap.size,0,none⟩) l :=
 (OwnL.lit (base:=w.heap.size) (E:=9) (n:=n) (size:=1) (l.map Value.string).toArray (Nat.le_refl _) (by unfold maxLen;omega) (by simp [h])).strs
theorem zNa (w:World) (a:Option Addr):zAs w a []:=fun k hk => absurd hk (Nat.not_lt_zero k)
theorem zM7 {w:World} {a:Option Addr} {xs:List Int} (h:IntsAt w a xs) (hne:xs≠[]):∃ b off,a=some ⟨b,off,none⟩∧b < w.heap.size∧∀ k (_:k < xs.length),w.cell? ⟨b,off + k,none⟩=some (.int .i64 (xs.getD k 0)):=by
 obtain ⟨b,off,ha,hl,_⟩:=h 0 (List.length_pos_iff.2 hne)
 refine ⟨b,off,ha,hl,fun k hk => ?_⟩
 obtain ⟨b',off',ha',_,hc⟩:=h k hk
 rw [ha] at ha'
 simp only [Option.some.injEq,Addr.mk.injEq,and_true] at ha'
 obtain ⟨rfl,rfl⟩:=ha'
 exact hc
theorem zHl {w:World} {a:Option Addr} {xs:List (Int × Int)} (h:zAX w a xs) (hne:xs≠[]):∃ b off,a=some ⟨b,off,none⟩∧b < w.heap.size∧∀ k (hk:k < xs.length),w.cell? ⟨b,off + k * 2,none⟩=some (.int .i64 xs[k].1)∧w.cell? ⟨b,off + k * 2 + 1,none⟩=some (.int .i64 xs[k].2):=by
 obtain ⟨b,off,ha,hl,_⟩:=h 0 (List.length_pos_iff.2 hne)
 refine ⟨b,off,ha,hl,fun k hk => ?_⟩
 obtain ⟨b',off',ha',_,hc⟩:=h k hk
 rw [ha] at ha'
 simp only [Option.some.injEq,Addr.mk.injEq,and_true] at ha'
 obtain ⟨rfl,rfl⟩:=ha'
 exact hc
theorem zQX (w:World) (hv:Vars w):Calls Tryz.prog 37 #[] w fun e w' => e=.returned (.bool true)∧Below w.heap.size w w':=by
 have yr:=fun (W:World) => zJV none 0 [] W (zNa W _) (fun _ => ⟨rfl,rfl⟩) (by decide)
 simp only [List.append_nil] at yr
 go_enter Tryz.func37,Tryz.ntmps37
 go_wp2_with fail
 go_at_call 97
 refine (zJV (some ⟨w.heap.size,0,none⟩) 7 zGx _ (zJi w zGx 7 rfl (by decide)) (fun e => by cases e) (by decide)).mono ?_
 rintro e W1 ⟨⟨a1,c1,rfl,o1⟩,b1⟩
 have t1:Below w.heap.size w W1:=(Joins.below_alloc1 _ _).trans (b1.mono (by simp))
 go_wp2_with fail
 go_at_call 28
 refine (zKC 0 a1 c1 (zBC ++ zGx) W1 o1.strs (by decide) (hv.below t1) (by have:=(hv.below t1).lt;omega)).mono ?_
 rintro e W2 ⟨⟨_,A,ae,ce,rfl,_,he⟩ | ⟨h3,_⟩,b2⟩
 rotate_left
 ·rw [zK7] at h3;cases h3
 rw [zMJ] at he
 have t2:=t1.trans (b2.mono t1.size)
 clear o1 b1 b2 t1
 go_upto_region 2 with fail
 rw [show zBC.length + zGx.length=27 from rfl]
 obtain ⟨V2,hV⟩:∃ x:World,x=W2.alloc (.cells (zAW (zAV (zBC ++ zGx)) A) 57):=⟨_,rfl⟩
 replace t2:Below w.heap.size w V2:=by rw [hV];exact t2.alloc t2.size _
 replace he:=he.below (show Below W2.heap.size W2 V2 by rw [hV];exact Joins.below_alloc1 _ _)
 change Code.wp _ _ _ _ (W2.alloc (.cells (zAW (zAV (zBC ++ zGx)) A) 57))
 rw [← hV]
 clear hV
 go_wp2_with fail
 go_at_call 97
 refine (yr _).mono ?_
 rintro e Y3 ⟨⟨a1,c1,rfl,o1⟩,b1⟩
 have y3:Below w.heap.size w Y3:=t2.trans (b1.mono t2.size)
 go_wp2_with fail
 go_at_call 45
 refine (zGG a1 c1 zBC Y3 o1.strs (by decide) (hv.below y3)).mono ?_
 rintro e W3 ⟨⟨a3,c3,rfl,h3⟩,b3⟩
 rw [zEl] at h3 ⊢
 rw [zDu]
 have t3:Below w.heap.size w W3:=y3.trans (b3.mono y3.size)
 replace he:=he.below (b1.trans (b3.mono b1.size))
 clear o1 b1 b3 y3
 go_wp2_with fail
 go_at_call 97
 refine (yr _).mono ?_
 rintro e Y4 ⟨⟨a1,c1,rfl,o1⟩,b1⟩
 have y4:Below w.heap.size w Y4:=t3.trans (b1.mono t3.size)
 go_wp2_with fail
 go_at_call 29
 refine (zGl a1 c1 zBC Y4 o1.strs (by decide) (hv.below y4)).mono ?_
 rintro e W4 ⟨⟨a4,c4,a5,c5,rfl,h4,h5⟩,b3⟩
 rw [zGO] at h4 ⊢
 rw [zH3] at h5 ⊢
 rw [zDF]
 have t4:Below w.heap.size w W4:=y4.trans (b3.mono y4.size)
 have u4:=b1.trans (b3.mono b1.size)
 replace he:=he.below u4
 replace h3:=h3.below u4
 clear o1 b1 b3 y4 u4
 go_wp2_with fail
 go_at_call 97
 refine (yr _).mono ?_
 rintro e Y5 ⟨⟨a1,c1,rfl,o1⟩,b1⟩
 have y5:Below w.heap.size w Y5:=t4.trans (b1.mono t4.size)
 go_wp2_with fail
 go_at_call 50
 refine (zKD a1 c1 zBC Y5 o1.strs (by decide) (hv.below y5)).mono ?_
 rintro e W5 ⟨⟨a6,c6,rfl,h6⟩,b3⟩
 rw [zH5] at h6 ⊢
 rw [zGP]
 have t5:Below w.heap.size w W5:=y5.trans (b3.mono y5.size)
 have u4:=b1.trans (b3.mono b1.size)
 replace he:=he.below u4
 replace h3:=h3.below u4
 replace h4:=h4.below u4
 replace h5:=h5.below u4
 clear o1 b1 b3 y5 u4
 go_wp2_with fail
 go_at_call 97
 refine (yr _).mono ?_
 rintro e Y6 ⟨⟨a1,c1,rfl,o1⟩,b1⟩
 have y6:Below w.heap.size w Y6:=t5.trans (b1.mono t5.size)
 go_wp2_with fail
 go_at_call 52
 refine (zLP a1 c1 zBC Y6 o1.strs (by decide) (hv.below y6)).mono ?_
 rintro e W6 ⟨⟨_,rfl⟩ | ⟨hx,_⟩,b3⟩
 rotate_left
 ·rw [zDY] at hx;cases hx
 rw [zI6]
 have t6:Below w.heap.size w W6:=y6.trans (b3.mono y6.size)
 have u4:=b1.trans (b3.mono b1.size)
 replace he:=he.below u4
 replace h3:=h3.below u4
 replace h4:=h4.below u4
 replace h5:=h5.below u4
 replace h6:=h6.below u4
 clear o1 b1 b3 y6 u4
 go_upto_region 6 with fail
 try simp only [List.append_eq,List.cons_append,List.nil_append]
 go_wp2_with fail
 go_at_call 66
 refine (zNY (some ⟨W6.heap.size,0,none⟩) 1 [⟨#[97]⟩] _ (zJi W6 [⟨#[97]⟩] 1 rfl (by decide)) (by decide)).mono ?_
 rintro e W7 ⟨⟨_,a7,c7,rfl,o7⟩ | ⟨hx,_⟩,b7⟩
 rotate_left
 ·rw [zMA] at hx;cases hx
 rw [zNm] at o7 ⊢
 have u7:Below W6.heap.size W6 W7:=(Joins.below_alloc1 _ _).trans (b7.mono (by simp))
 have t7:Below w.heap.size w W7:=t6.trans (u7.mono t6.size)
 replace he:=he.below u7
 replace h3:=h3.below u7
 replace h4:=h4.below u7
 replace h5:=h5.below u7
 replace h6:=h6.below u7
 clear b7 u7 t6 yr t2 t3 t4 t5
 obtain ⟨b3,f3,rfl,l3,k3⟩:=zM7 he (by decide)
 have e19:=k3 19 (by decide)
 have e20:=k3 20 (by decide)
 have e21:=k3 21 (by decide)
 have e22:=k3 22 (by decide)
 have e23:=k3 23 (by decide)
 have e24:=k3 24 (by decide)
 have e25:=k3 25 (by decide)
 have e26:=k3 26 (by decide)
 simp at e19 e20 e21 e22 e23 e24 e25 e26
 clear k3 he
 go_wp2_with fail
 go_at_call 48
 refine (zJo a3 (some ⟨W7.heap.size,0,none⟩) c3 3 [1,1,-1] [1,1,-1] _ (h3.below (Joins.below_alloc1 _ _)) ((Cells.new W7 _ _).ints [1,1,-1] rfl) (by decide)).mono ?_
 rintro e W8 ⟨rfl,b8⟩
 have u8:Below W7.heap.size W7 W8:=(Joins.below_alloc1 _ _).trans (b8.mono (by simp))
 replace h4:=h4.below u8
 replace h5:=h5.below u8
 replace h6:=h6.below u8
 replace o7:=o7.kept u8
 have t8:Below w.heap.size w W8:=t7.trans (u8.mono t7.size)
 clear b8 u8 t7 h3 e19 e20 e21 e22 e23 e24 e25 e26 l3
 obtain ⟨b4,f4,rfl,l4,k4⟩:=zHl h4 (by decide)
 obtain ⟨r0,r1⟩:=k4 0 (by decide)
 obtain ⟨r2,r3⟩:=k4 1 (by decide)
 simp at r0 r1 r2 r3
 clear k4 h4
 rw [show decide ([1,1,-1]=([1,1,-1]:List Int))=true from by decide]
 go_wp2_with fail
 go_at_call 48
 refine (zJo a5 (some ⟨W8.heap.size,0,none⟩) c5 1 [1] [1] _ (h5.below (Joins.below_alloc1 _ _)) ((Cells.new W8 _ _).ints [1] rfl) (by decide)).mono ?_
 rintro e W9 ⟨rfl,b9⟩
 have u9:Below W8.heap.size W8 W9:=(Joins.below_alloc1 _ _).trans (b9.mono (by simp))
 replace h6:=h6.below u9
 replace o7:=o7.kept u9
 have t9:Below w.heap.size w W9:=t8.trans (u9.mono t8.size)
 clear b9 u9 t8 h5 r0 r1 r2 r3 l4
 obtain ⟨b6,f6,rfl,l6,k6⟩:=zHl h6 (by decide)
 obtain ⟨r0,r1⟩:=k6 0 (by decide)
 obtain ⟨r2,r3⟩:=k6 3 (by decide)
 simp at r0 r1 r2 r3
 clear k6 h6
 rw [show decide ([1]=([1]:List Int))=true from by decide]
 obtain ⟨g7,rfl⟩:∃ g,a7=some ⟨g,0,none⟩:=by
  rcases o7.form with ⟨_,_,h3,_⟩ | ⟨g,h1,_⟩
  ·cases h3
  ·exact ⟨g,h1⟩
 have hcv:(convert 128 9 (.slice (some ⟨g7,0,none⟩) 11 c7)).run Tryz.prog W9=.ok (.string ⟨#[48,49,45,48,48,49,50,48,45,97,10]⟩) W9:=by
  have hs:=SrcAt.own o7
  refine run_convert_bytes_back W9 128 9 5 ⟨g7,0,none⟩ c7 [48,49,45,48,48,49,50,48,45,97,10] Tryz.underlying128 Tryz.underlying5 Tryz.underlying9 fun j hj => ?_
  obtain ⟨b,off,e,hc⟩:=hs j (.int .u8 (([48,49,45,48,48,49,50,48,45,97,10]:List UInt8)[j].toNat:Int)) (by unfold zDB;rw [List.getElem?_map,List.getElem?_eq_getElem hj];rfl)
  simp only [Option.some.injEq,Addr.mk.injEq,and_true] at e
  obtain ⟨rfl,rfl⟩:=e
  rw [addr_add];exact hc
 go_wp2_with fail
 all_goals first
  | (go_ret;exact ⟨rfl,t9⟩)
  | (exfalso;rename_i hne;exact hne rfl)
end Go.Proofs.YticjeianiahppaaGreatDoor
