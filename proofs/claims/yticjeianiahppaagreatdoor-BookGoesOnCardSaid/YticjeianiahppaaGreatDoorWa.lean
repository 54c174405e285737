/- book, laws: BookGoesOn: Resume of no bytes, and of a file cut off anywhere -/
import Derived.Test.YticjeianiahppaaGreatDoorGt
import Derived.Test.YticjeianiahppaaGreatDoorGp
import Derived.Test.YticjeianiahppaaGreatDoorGk
import Derived.Test.YticjeianiahppaaGreatDoorVi
namespace Go.Proofs.YticjeianiahppaaGreatDoor
set_option linter.unusedVariables false
set_option linter.unusedSimpArgs false
set_option linter.unnecessarySimpa false
open Go.RowKit Go.Flow
def LstV (n : Nat) (l : List ByteArray) (v : Value) (w : World) : Prop := ∃ a c, v = .slice a n c ∧ zAs w a l
theorem LstV.kept {n : Nat} {l : List ByteArray} {v : Value} {w w' : World} (h : LstV n l v w) (hb : Below w.heap.size w w') : LstV n l v w' := let ⟨a, c, h1, h2⟩ := h; ⟨a, c, h1, h2.below hb⟩
/-- Bytes beside an error. -/
def FilV (n : Nat) (B : List UInt8) (v : Value) (w : World) : Prop := ∃ a c, v = .tuple #[.slice a n c, .int .i64 0] ∧ SrcAt w a (zDB B)
theorem FilV.kept {n : Nat} {B : List UInt8} {v : Value} {w w' : World} (h : FilV n B v w) (hb : Below w.heap.size w w') : FilV n B v w' := let ⟨a, c, h1, h2⟩ := h; ⟨a, c, h1, zAO h2 hb⟩
def BytV (n : Nat) (B : List UInt8) (v : Value) (w : World) : Prop := ∃ a c, v = .slice a n c ∧ SrcAt w a (zDB B)
theorem BytV.kept {n : Nat} {B : List UInt8} {v : Value} {w w' : World} (h : BytV n B v w) (hb : Below w.heap.size w w') : BytV n B v w' := let ⟨a, c, h1, h2⟩ := h; ⟨a, c, h1, zAO h2 hb⟩
theorem strs_drop {base : Nat} {w : World} {a : Option Addr} {c j : Nat} {K : List ByteArray} (o : OwnL 9 1 base w a c K.length (K.map Value.string)) (hj : j ≤ K.length) :
    zAs w (if c = j then a else Option.map (fun x => x.add j) a) (K.drop j) ∧ ((if c = j then a else Option.map (fun x => x.add j) a) = none → c - j = 0) := by
  have hc := o.fits.1
  rcases o.form with ⟨rfl, rfl, h3, _⟩ | ⟨g, rfl, _⟩
  · exact ⟨fun i hi => by rw [List.length_drop] at hi; omega, fun _ => by omega⟩
  · by_cases h : c = j
    · rw [if_pos h]
      exact ⟨fun i hi => by rw [List.length_drop] at hi; omega, fun _ => by omega⟩
    · rw [if_neg h]
      refine ⟨fun i hi => ?_, fun e => by simp at e⟩
      rw [List.length_drop] at hi
      obtain ⟨b, off, e1, hl, hcell⟩ := o.strs (j + i) (by omega)
      simp only [Option.some.injEq, Addr.mk.injEq, and_true] at e1
      obtain ⟨rfl, rfl⟩ := e1
      refine ⟨g, 0 + j, by rw [Option.map_some, addr_add], hl, ?_⟩
      rw [List.getElem_drop, show 0 + j + i = 0 + (j + i) by omega]
      exact hcell
def ErrV (v : Value) (_ : World) : Prop := v = .int .i64 0
set_option maxRecDepth 100000 in
set_option maxHeartbeats 8000000 in
theorem bookGoesOn_walk (a : Option Addr) (l : List ByteArray) (c : Nat) (cut : Int) (w : World) (hl : zAs w a l) (hn : a = none → c = 0) (hm : l.length ≤ 9223372036854775807) (hc : l.length ≤ c) (hcut : 0 ≤ cut ∧ cut ≤ 65535) (hv : Vars w) :
    Calls Tryz.prog 19 #[.slice a l.length c, .int .u16 cut] w fun e w' => e = .returned (.bool true) ∧ Below w.heap.size w w' := by
  have rd : Calls _ _ #[.slice a l.length c, .int .i64 50] w _ := zQB a c 50 l w hl hm
  cases hr : zHm l 50
  · rw [hr] at rd
    clear hr
    go_enter Tryz.func19, Tryz.ntmps19
    go_wp2_with fail
    go_at_call 55
    refine rd.mono ?_
    rintro e W1 ⟨rfl, b1⟩
    go_wp2_with fail
    go_at_call 37
    refine (zQX W1 (hv.below b1)).mono ?_
    rintro e W2 ⟨rfl, b2⟩
    go_wp2_with fail
    go_ret
    exact ⟨rfl, b1.trans (b2.mono b1.size)⟩
  · obtain ⟨h0, _, h50⟩ := zQ0 hr
    rw [hr] at rd
    clear hr
    have h80 := (zFM h0).2
    have ls := fun W (b : Below w.heap.size w W) => zFH a c l W (hl.below b) hn (by omega)
    have pl := fun W (b : Below w.heap.size w W) => zPq a c l W (hl.below b) hn h0 (hv.below b)
    have cb := contL_begun l
    have ck := contL_kept l
    have kl := zOG BSt.begun l
    have kf := fault_keptD h0 BSt.begun
    have km := zQ1 BSt.begun l
    unfold zLR at pl
    obtain ⟨K, hK⟩ : ∃ K, zB0 BSt.begun l = K := ⟨_, rfl⟩
    simp only [hK] at cb ck kl kf km pl
    have hK8 : ∀ s ∈ K, s.size ≤ 80 := fun s hs => h80 s (km s hs)
    have hKf : zBF K = 0 := kf 0
    have hK5 : K.length ≤ 50 := by omega
    have wr := fun W a' c' (h : zAs W a' K) => zNY a' c' K W h (by omega)
    have lk := fun W a' c' (h : zAs W a' K) hn' => zFH a' c' K W h hn' (by omega)
    have r1 := fun W (b : Below w.heap.size w W) a' c' (h : zAs W a' l) => Resume_any none 0 0 a' c' [] [] l W rfl (by omega) (by omega) (fun j u hu => by simp [zDB] at hu) (readL_none (recAt_nil 0) 50) (fun s h => by cases h) (by simp) h hm (hv.below b)
    have hBz := file_le hK8 hK5
    have rf := read_first hK8 hK5
    have hBe : zDT (contL [] l) = zDT K := by rw [cb]
    obtain ⟨B, hB⟩ : ∃ B, zDT K = B := ⟨_, rfl⟩
    unfold zNZ at wr
    unfold ResumePost at r1
    simp only [cb, hB] at wr r1
    rw [hB] at hBz
    simp only [hB] at rf
    have cutw : IntKind.i64.wrap cut = cut := IntWalk.i64_in _ (by omega)
    have bw : IntKind.i64.wrap ((B.length : Int) + 1) = (B.length : Int) + 1 := IntWalk.i64_in _ (by omega)
    obtain ⟨k, hk, hkm⟩ : ∃ k : Nat, k ≤ B.length ∧ cut.tmod ((B.length : Int) + 1) = (k : Int) := by
      refine ⟨cut.toNat % (B.length + 1), by have := Nat.mod_lt cut.toNat (show 0 < B.length + 1 by omega); omega, ?_⟩
      have : cut = ((cut.toNat : Nat) : Int) := by omega
      rw [this, show (B.length : Int) + 1 = ((B.length + 1 : Nat) : Int) by omega]; simp [Int.tmod]
    have kw : IntKind.i64.wrap (k : Int) = (k : Int) := IntWalk.i64_in _ (by omega)
    have bne : ¬ (B.length : Int) + 1 = 0 := by omega
    have hk0 : (0 : Int) ≤ (k : Int) := by omega
    have rfk := rf k
    have hj0l := whole_le (zG9 K) k
    rw [lines_len] at hj0l
    obtain ⟨j, hj⟩ : ∃ j, (wholeL (zG9 K) k).1 = j := ⟨_, rfl⟩
    rw [hj] at rfk hj0l
    have hjt : (K.take j).length = j := by rw [List.length_take]; omega
    have hjd : (K.drop j).length = K.length - j := List.length_drop
    have ckj := ck j
    have rA := fun W (b : Below w.heap.size w W) a' c' (hc' : k ≤ c') h => Recover_as a' c' k j _ (B.take k) (K.take j) W (by rw [List.length_take]; omega) (by omega) hc' h (hv.below b) rfk hjt rfl
    have r2 := fun W (b : Below w.heap.size w W) a' c' (hc' : k ≤ c') h am cm (h2 : zAs W am (K.drop j)) => Resume_any a' c' k am cm (B.take k) (K.take j) (K.drop j) W (by rw [List.length_take]; omega) (by omega) hc' h rfk (fun s hs => hK8 s (List.mem_of_mem_take hs)) (by omega) h2 (by omega) (hv.below b)
    unfold ResumePost at r2
    simp only [ckj, hB, hjd] at r2
    have ld := fun W a' c' (h : zAs W a' (K.drop j)) hn' => zFH a' c' (K.drop j) W h hn' (by omega)
    rw [hjd] at ld
    have kfj := kf j
    clear cb ck kl kf km hK hj hB rf rfk ckj hBe hK8 hjt
    go_enter Tryz.func19, Tryz.ntmps19
    go_wp2_with fail
    go_at_call 55
    refine rd.mono ?_
    rintro e W1 ⟨rfl, b1⟩
    clear rd
    go_wp2_with fail
    go_at_call 56
    refine (pl W1 b1).mono ?_
    rintro e W2 ⟨⟨A, a2, c2, rfl, _, o2⟩, b2⟩
    have t2 := b1.trans (b2.mono b1.size)
    clear pl b1 b2
    go_upto_region 4 with fail
    obtain ⟨V, hV⟩ : ∃ x : World, x = W2.alloc (.cells (zAW (zAV l) A) 57) := ⟨_, rfl⟩
    have bv : Below W2.heap.size W2 V := by rw [hV]; exact Joins.below_alloc1 _ _
    change Code.wp _ _ _ _ (W2.alloc (.cells (zAW (zAV l) A) 57))
    rw [← hV]
    clear hV
    have tv := t2.trans (bv.mono t2.size)
    have oV := o2.kept bv
    clear o2 bv
    go_wp2_with fail
    go_at_call 38
    refine (lk V a2 c2 oV.strs (fun h => by subst h; exact oV.isnil.2)).mono ?_
    rintro e W3 ⟨⟨a3, c3, rfl, o3⟩, b3⟩
    have t3 := tv.trans (b3.mono tv.size)
    go_wp2_with fail
    go_at_call 66
    refine (wr W3 a3 c3 o3.strs).mono ?_
    rintro e W4 ⟨⟨_, ae, ce, rfl, o4⟩ | ⟨h3, rfl⟩, b4⟩
    rotate_left
    · rw [hKf] at h3; cases h3
    have t4 := t3.trans (b4.mono t3.size)
    have K4 := (oV.kept b3).kept b4
    clear o3 oV wr lk b3 b4 t2 tv
    go_wp2_with fail
    go_at_call 38
    refine (ls W4 t4).mono ?_
    rintro e W5 ⟨⟨a5, c5, rfl, o5⟩, b5⟩
    have t5 := t4.trans (b5.mono t4.size)
    go_wp2_with fail
    go_at_call 71
    refine (r1 W5 t5 a5 c5 o5.strs).mono ?_
    rintro e W6 ⟨⟨_, _, af, cf, rfl, o6⟩ | ⟨h3, rfl⟩, b6⟩
    rotate_left
    · rcases h3 with h3 | ⟨_, h3⟩
      · rw [h0] at h3; cases h3
      · omega
    have t6 := t5.trans (b6.mono t5.size)
    have B6 := (o4.kept b5).kept b6
    have K6 := (K4.kept b5).kept b6
    have cv1 := conv_str W6 ae ce B.length B rfl (SrcAt.own B6)
    have cv2 := conv_str W6 af cf B.length B rfl (SrcAt.own o6)
    have hce := B6.fits.1
    have hcI : (k : Int) ≤ (ce : Int) := by omega
    clear r1 ls o5 o4 K4 b5 b6 t3 t4 t5
    go_wp2_with (at_builtin; refine zA2 zQN rfl _ _ rfl W6.heap.size none 0 0 [] rfl (OwnL.nil _ _ _ _) ae k ce (zDB (B.take k)) rfl (fun h => by subst h; have := B6.isnil; exact ⟨by omega, this.2⟩) (by rw [zLD, List.length_take]; omega) (src_take (SrcAt.own B6) k) (zLC _) (by unfold maxLen; omega) (by omega) (Nat.le_refl _) ?_)
    intro a7 c7 W7 o7 b7
    replace o7 : OwnL 5 1 W6.heap.size W7 a7 c7 k (zDB (B.take k)) := by simpa using o7
    have t7 := t6.trans (b7.mono t6.size)
    have f7 := o7.fits.1
    clear cv1 cv2 o6
    go_wp2_with fail
    go_at_call 67
    refine (rA W7 t7 a7 c7 f7 (SrcAt.own o7)).mono ?_
    rintro e W8 ⟨⟨a8, c8, rfl, _⟩, b8⟩
    have t8 := t7.trans (b8.mono t7.size)
    have B8 := (B6.kept b7).kept b8
    have K8 := (K6.kept b7).kept b8
    have hjI : ¬ (K.length : Int) < (j : Int) := by omega
    have hjc := K8.fits.1
    clear b7 b8 t6 t7 o7 rA B6 K6 f7
    have hjI0 : (0 : Int) ≤ (j : Int) := by omega
    have hjI1 : (j : Int) ≤ (K.length : Int) := by omega
    have hjI2 : (K.length : Int) ≤ (c2 : Int) := by omega
    have hkce : k ≤ ce := by omega
    go_upto_region 12 with fail
    (refine zAD 14 [] [14] 100 [true, true, true, false, true, true, true, true, false, false, false, false, false, false] [OwnV 5 1 W8.heap.size k (zDB (B.take k)), LstV (K.length - j) (K.drop j), FilV B.length B, FilV B.length B, BytV B.length B, ErrV, BytV B.length B] (by kernel_rfl) (by kernel_rfl) rfl (zAB (fun v w w' h hb => h.kept hb) (zAB (fun v w w' h hb => h.kept hb) (zAB (fun v w w' h hb => h.kept hb) (zAB (fun v w w' h hb => h.kept hb) (zAB (fun v w w' h hb => h.kept hb) (zAB (fun v w w' h hb => h) (zAB (fun v w w' h hb => h.kept hb) zAR))))))) ?_; simp only [zAU, List.filterMap_cons, List.filterMap_nil, List.getElem?_toArray, List.getElem?_cons_succ, List.getElem?_cons_zero]; (repeat (refine zAM _ rfl (fun w => (by go_simp; rfl)) ?_)); refine zAS ?_; simp only [zAF, zAt, Act.put, List.setIfInBounds_toArray, List.set_cons_zero, List.set_cons_succ, List.take_succ_cons, List.take_zero, List.drop_succ_cons, List.drop_zero]; (repeat (refine zAL (fun K hK => ?_); go_simp; first | (refine hK _ ?_; clear hK K) | (apply Exists.intro; refine ⟨fun ex => ?_, hK _ ?_⟩; (fail); clear hK K))); refine zAQ ?_; simp only [zAT, under, zAZ, and_true, List.nil_append, List.cons_append])
    refine ⟨⟨?_, ?_, ?_, ?_, ?_, ?_, ?_⟩, ?_⟩
    · intro e
      exact gives_appn zQN e.to W8.heap.size e.below.size _ _ rfl rfl _ k ce (zDB (B.take k)) rfl (fun h => by subst h; have := B8.isnil; exact ⟨by omega, this.2⟩) (by rw [zLD, List.length_take]; omega) (zAO (src_take (SrcAt.own B8) k) e.below) (zLC _) (by unfold maxLen; omega) (by omega)
    · intro e v1 _
      obtain ⟨sd, sn⟩ := strs_drop (K8.kept e.below) hj0l
      go_simp
      refine (ld e.to _ _ sd sn).mono ?_
      rintro _ _ ⟨⟨am, cm, rfl, om⟩, b⟩
      exact ⟨b, am, cm, rfl, om.strs⟩
    · intro e v1 h1 v2 h2
      obtain ⟨a9, c9, rfl, o9⟩ := h1 (by kernel_rfl)
      obtain ⟨am, cm, rfl, sm⟩ := h2 (by kernel_rfl)
      go_simp
      refine (r2 e.to (t8.trans (e.below.mono t8.size)) a9 c9 o9.fits.1 (SrcAt.own o9) am cm sm).mono ?_
      rintro _ _ ⟨⟨_, _, ax, cx, rfl, ox⟩ | ⟨h3, rfl⟩, b⟩
      · exact ⟨b, ax, cx, rfl, SrcAt.own ox⟩
      · exfalso
        rcases h3 with h3 | ⟨_, h3⟩
        · rw [kfj] at h3; cases h3
        · omega
    · intro e v1 _ v2 _ v3 h3
      obtain ⟨ax, cx, rfl, sx⟩ := h3 (by kernel_rfl)
      go_simp
      exact ⟨Below.refl _ _, ax, cx, rfl, sx⟩
    · intro e v1 _ v2 _ v3 _ v4 h4
      obtain ⟨ax, cx, rfl, sx⟩ := h4 (by kernel_rfl)
      go_simp
      exact ⟨Below.refl _ _, ax, cx, rfl, sx⟩
    · intro e v1 _ v2 _ v3 _ v4 h4 v5 _
      obtain ⟨ax, cx, rfl, sx⟩ := h4 (by kernel_rfl)
      go_simp
      exact ⟨Below.refl _ _, rfl⟩
    · intro e v1 _ v2 _ v3 _ v4 _ v5 h5 v6 _
      obtain ⟨ax, cx, rfl, sx⟩ := h5 (by kernel_rfl)
      go_simp
      exact ⟨Below.refl _ _, ax, cx, rfl, sx⟩
    intro e
    rintro v1 - v2 - v3 - v4 - v5 - v6 rfl v7 ⟨ax, cx, rfl, sx⟩
    simp only [Act.put, List.setIfInBounds_toArray, List.set_cons_zero, List.set_cons_succ]
    have t9 := t8.trans (e.below.mono t8.size)
    have B9 := B8.kept e.below
    obtain ⟨V9, hV9⟩ : ∃ z : World, z = e.to := ⟨_, rfl⟩
    rw [← hV9] at t9 B9 sx ⊢
    clear hV9 e
    generalize (if c2 = j then a2 else Option.map (fun x => x.add j) a2) = ay
    have cva := conv_str V9 ax cx B.length B rfl sx
    have cvb := conv_str V9 ae ce B.length B rfl (SrcAt.own B9)
    clear r2 ld K8 B8
    go_wp2_with fail
    go_at_call 37
    refine (zQX V9 (hv.below t9)).mono ?_
    rintro e W10 ⟨rfl, b10⟩
    go_wp2_with fail
    go_ret
    exact ⟨rfl, t9.trans (b10.mono t9.size)⟩
end Go.Proofs.YticjeianiahppaaGreatDoor
