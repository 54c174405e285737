/- book, laws: BookLost -/
import Derived.Test.YticjeianiahppaaGreatDoorVh
namespace Go.Proofs.YticjeianiahppaaGreatDoor
set_option linter.unusedVariables false
set_option linter.unusedSimpArgs false
set_option linter.unnecessarySimpa false
open Go.RowKit Go.Flow
set_option maxRecDepth 100000 in
set_option maxHeartbeats 4000000 in
theorem bookLost_walk (a : Option Addr) (l : List ByteArray) (c : Nat) (key day : Int) (w : World) (hl : StrsAt w a l) (hn : a = none → c = 0) (hm : l.length ≤ 9223372036854775807) (_ : l.length ≤ c) (hkey : 0 ≤ key ∧ key ≤ 255) (hday : 0 ≤ day ∧ day ≤ 255) (hv : Vars w) :
    Calls Tryz.prog 13 #[.slice a l.length c, .int .u8 key, .int .u8 day] w fun e w' => e = .returned (.bool true) ∧ Below w.heap.size w w' := by
  have rd : Calls _ _ #[.slice a l.length c, .int .i64 49] w _ := ready_any a c 49 l w hl hm
  cases hr : readyB l 49
  · rw [hr] at rd
    clear hr
    go_enter Tryz.func13, Tryz.ntmps13
    go_wp2_with fail
    go_at_call 55
    refine rd.mono ?_
    rintro e W1 ⟨rfl, b1⟩
    go_wp2_with fail
    go_at_call 37
    refine (awake_any W1 (hv.below b1)).mono ?_
    rintro e W2 ⟨rfl, b2⟩
    go_wp2_with fail
    go_ret
    exact ⟨rfl, b1.trans (b2.mono b1.size)⟩
  · obtain ⟨h0, h49, h50⟩ := ready_ok hr
    rw [hr] at rd
    clear hr
    obtain ⟨p, hp, hpm⟩ := mod_small hkey.1 5 (by decide)
    obtain ⟨q, hq, hqm⟩ := mod_small hday.1 8 (by decide)
    simp only [Int.cast_ofNat_Int] at hpm hqm
    have pw : IntKind.i64.wrap (p : Int) = (p : Int) := IntWalk.i64_in _ (by omega)
    have qw : IntKind.i64.wrap (q : Int) = (q : Int) := IntWalk.i64_in _ (by omega)
    have kw : IntKind.i64.wrap key = key := IntWalk.i64_in _ (by omega)
    have dw : IntKind.i64.wrap day = day := IntWalk.i64_in _ (by omega)
    obtain ⟨x, hx⟩ : ∃ x : ByteArray, x = ⟨(Lib.itoa (p : Int)).toArray⟩ := ⟨_, rfl⟩
    obtain ⟨y, hy⟩ : ∃ x : ByteArray, x = ⟨(Lib.itoa (q : Int)).toArray⟩ := ⟨_, rfl⟩
    have xs : x.size ≤ 3 := by rw [hx]; exact itoa_len3 p (by omega)
    have ys : y.size ≤ 3 := by rw [hy]; exact itoa_len3 q (by omega)
    have tx := fun W => Text_as (p : Int) x W hx (by omega)
    have ty := fun W => Text_as (q : Int) y W hy (by omega)
    have es := lineB2 .lost ⟨#[108, 111, 115, 116, 32]⟩ rfl p q x y hx hy
    have ps := lineB_parse .lost [(p : Int), (q : Int)] rfl (by simp; omega)
    have zs := lineB_size .lost [(p : Int), (q : Int)] (by simp) (by simp; omega)
    have hf1 : faultL (l ++ [lineB .lost [(p : Int), (q : Int)]]) = 0 := fault_more h0 (by simp; omega) (by simpa using zs)
    have la := lost_law (S := afterL l) (p : Int) (q : Int) ps
    rw [← after_snoc] at la
    clear hx hy ps zs
    generalize lineB .lost [(p : Int), (q : Int)] = s at es hf1 la
    obtain ⟨ld, lm⟩ := la
    obtain ⟨M, hM⟩ : ∃ M, M = l ++ [s] := ⟨_, rfl⟩
    rw [← hM] at hf1 ld lm
    have hML : M.length = l.length + 1 := by rw [hM]; simp
    have F := after_few l
    have V := after_val l
    obtain ⟨E, hE⟩ : ∃ E, exposedE l = E := ⟨_, rfl⟩
    have hE2 : exposedE M = E := by rw [← hE]; unfold exposedE; rw [h0, hf1, ld]
    have hEd : (E = 7 ∧ (afterL l).days = []) ∨ (E = 0 ∧ (afterL l).days ≠ []) := by
      rw [← hE]; unfold exposedE; rw [h0]
      by_cases hd : (afterL l).days = []
      · left; simp [hd]
      · right; simp [hd]
    obtain ⟨X, hX⟩ : ∃ X, exposedL l = X := ⟨_, rfl⟩
    obtain ⟨Y, hY⟩ : ∃ X, exposedL M = X := ⟨_, rfl⟩
    have hX2 : E = 0 → X = Cph.expRes (afterL l).days (afterL l).lost := fun h => by rw [← hX]; unfold exposedL; rw [hE, if_pos h]
    have hXY : X.length = Y.length ∧ ∀ k, k < X.length → 0 ≤ X.getD k 0 → 0 ≤ Y.getD k 0 ∧ Y.getD k 0 ≤ X.getD k 0 := by
      rw [← hX, ← hY]
      unfold exposedL
      rw [hE, hE2]
      by_cases h : E = 0
      · rw [if_pos h, if_pos h]
        unfold Cph.expRes
        rw [ld]
        refine ⟨by rw [Cph.upTo_len, Cph.upTo_len], fun k hk hp => ?_⟩
        rw [Cph.upTo_len] at hk
        have g : ∀ F : Nat → Int, (Cph.upTo F (afterL l).days.length).getD k 0 = F k := fun F => by
          unfold Cph.upTo; rw [List.getD_eq_getElem?_getD, List.getElem?_map, List.getElem?_range hk]; rfl
        rw [g] at hp ⊢
        rw [g]
        exact lm k hk hp
      · rw [if_neg h, if_neg h]; exact ⟨rfl, fun k hk => absurd hk (Nat.not_lt_zero k)⟩
    have hX8 : X.length ≤ 8 := by
      rw [← hX]; unfold exposedL
      split
      · unfold Cph.expRes; rw [Cph.upTo_len]; exact F.days
      · simp
    obtain ⟨hXl, hXk⟩ := hXY
    replace hXl := Lib.hid hXl
    have ls := fun W (b : Below w.heap.size w W) => list_as a c l.length l W rfl (hl.below b) hn (by omega)
    have ex1 := fun (W : World) (b : Below w.heap.size w W) a' c' h' => Exposed_as a' c' l.length l W hE hX rfl h' (by omega) (hv.below b)
    have ex2 := fun (W : World) (b : Below w.heap.size w W) a' c' h' => Exposed_as a' c' (l.length + 1) M W hE2 hY hML h' (by omega) (hv.below b)
    have pl := fun W (b : Below w.heap.size w W) => played_as a c l.length l W rfl rfl rfl (hl.below b) hn h0 (hv.below b)
    have lv := fun h => loss_valid V F h
    replace hM := Lib.hid hM
    clear hE hE2 hX hY hf1 ld lm V h0
    replace hML := Lib.hid hML
    generalize afterL l = S at *
    unfold PlayedAs at pl
    unfold RetI at ex1 ex2
    go_enter Tryz.func13, Tryz.ntmps13
    go_wp2_with fail
    go_at_call 55
    refine rd.mono ?_
    rintro e W1 ⟨rfl, b1⟩
    clear rd
    go_wp2_with fail
    go_at_call 38
    refine (ls W1 b1).mono ?_
    rintro e W2 ⟨⟨a2, c2, rfl, o2⟩, b2⟩
    have o2 := o2.base_le b1.size
    have t2 := b1.trans (b2.mono b1.size)
    go_wp2_with fail
    go_at_call 63
    refine (tx W2).mono ?_
    rintro e W3 ⟨rfl, b3⟩
    have o3 := o2.kept b3
    have t3 := t2.trans (b3.mono t2.size)
    go_wp2_with fail
    go_at_call 63
    refine (ty W3).mono ?_
    rintro e W4 ⟨rfl, b4⟩
    have o4 := o3.kept b4
    have t4 := t3.trans (b4.mono t3.size)
    clear o2 o3 t2 t3 b1 b2 b3 b4 tx ty
    have b5 : Below W4.heap.size W4 (W4.alloc (.cells #[.string s] 9)) := Joins.below_alloc1 _ _
    have src : SrcAt (W4.alloc (.cells #[.string s] 9)) (some ⟨W4.heap.size, 0, none⟩) [.string s] := fun j u hu => by
      match j, hu with
      | 0, hu => simp at hu; subst hu; exact ⟨_, 0, rfl, by simp⟩
      | j + 1, hu => simp at hu
    go_wp2_with (at_builtin; refine wpList_app elStr rfl _ _ rfl w.heap.size _ _ _ _ rfl (o4.kept b5) (some ⟨W4.heap.size, 0, none⟩) 1 1 [.string s] rfl (fun h => by cases h) (by simp) src (fun u hu => by simp at hu; subst hu; rfl) (by unfold maxLen; omega) (by omega) (by have := t4.size; simp; omega) ?_)
    intro a6 c6 W6 o6 b6
    have o6 : OwnL 9 1 w.heap.size W6 a6 c6 (l.length + 1) (M.map Value.string) := by rw [hM.out, List.map_append]; exact o6
    have t6 : Below w.heap.size w W6 := (t4.trans (b5.mono t4.size)).trans b6
    clear o4 t4 b5 b6 src
    go_wp2_with fail
    go_at_call 38
    refine (ls W6 t6).mono ?_
    rintro e W7 ⟨⟨a7, c7, rfl, o7⟩, b7⟩
    have o6 := o6.kept b7
    have t7 := t6.trans (b7.mono t6.size)
    clear b7 t6
    go_wp2_with fail
    go_at_call 45
    refine (ex1 W7 t7 a7 c7 o7.strs).mono ?_
    rintro e W8 ⟨⟨a8, c8, rfl, h8⟩, b8⟩
    have o6 := o6.kept b8
    have t8 := t7.trans (b8.mono t7.size)
    clear b8 t7 o7
    go_wp2_with fail
    go_at_call 38
    refine (list_as a6 c6 (l.length + 1) M W8 hML.out o6.strs (fun h => by subst h; exact o6.isnil.2) (by have := hML.out; omega)).mono ?_
    rintro e W9 ⟨⟨a9, c9, rfl, o9⟩, b9⟩
    have h8 := h8.below b9
    have t9 := t8.trans (b9.mono t8.size)
    clear b9 t8 o6
    go_wp2_with fail
    go_at_call 45
    refine (ex2 W9 t9 a9 c9 o9.strs).mono ?_
    rintro e W10 ⟨⟨a10, c10, rfl, h10⟩, b10⟩
    have h8 := h8.below b10
    have t10 := t9.trans (b10.mono t9.size)
    clear b10 t9 o9 ex1 ex2 ls
    rw [← hXl.out]
    go_wp2_with fail
    go_at_call 56
    refine (pl W10 t10).mono ?_
    rintro e W11 ⟨⟨A, a11, c11, rfl, hA, _⟩, b11⟩
    have h8 := h8.below b11
    have h10 := h10.below b11
    have t11 := t10.trans (b11.mono t10.size)
    clear b11 t10 pl
    go_upto_region 7 with fail
    obtain ⟨V, hV⟩ : ∃ x : World, x = W11.alloc (.cells (stCells S A) 57) := ⟨_, rfl⟩
    have bv : Below W11.heap.size W11 V := by rw [hV]; exact Joins.below_alloc1 _ _
    have C : Cells V W11.heap.size (stCells S A) 57 := by rw [hV]; exact Cells.new _ _ _
    change Code.wp _ _ _ _ (W11.alloc (.cells (stCells S A) 57))
    rw [← hV]
    clear hV
    have tv := t11.trans (bv.mono t11.size)
    replace hA := hA.below bv
    replace h8 := h8.below bv
    replace h10 := h10.below bv
    generalize W11.heap.size = g at C ⊢
    clear bv t11
    have k0 := C.cell 0
    have k1 := C.cell 1
    have k2 := C.cell 2
    have k3 := C.cell 3
    have k4 := C.cell 4
    have lC := C.lt
    simp at k0 k1 k2 k3 k4
    rcases hEd with ⟨rfl, hd⟩ | ⟨rfl, hd⟩
    · have hd0 : S.days.length = 0 := by rw [hd]; rfl
      rw [hd0] at k3
      clear hd hd0
      go_wp2_with fail
      go_at_call 37
      refine (awake_any V (hv.below tv)).mono ?_
      rintro e W12 ⟨rfl, b12⟩
      go_wp2_with fail
      go_ret
      exact ⟨rfl, tv.trans (b12.mono tv.size)⟩
    · have lv0 := lv hd
      have eo : Cph.expOut S.size S.words S.keys S.days S.lost = X := by unfold Cph.expOut; rw [if_pos lv0, ← hX2 rfl]
      have xf := Cph.exposed_full S.size S.words A.ak S.keys A.ck A.ad S.days A.cd A.al S.lost A.cl V hA.keys.atK hA.days.atI (by have := F.keys; omega) (by have := F.days; omega) hA.lost.atP (by have := F.lost; omega)
      rw [lv0, eo] at xf
      clear lv lv0 eo hX2 hd
      unfold Cph.SliceErr at xf
      go_wp2_with fail
      go_at_call 64
      refine xf.mono ?_
      rintro e W12 ⟨⟨a12, c12, rfl, o12⟩, b12⟩
      have h8 := h8.below b12
      have h10 := h10.below b12
      have t12 := tv.trans (b12.mono tv.size)
      have si := ints_any a12 a8 c12 c8 X X W12 o12.ints.1 h8 (by omega)
      simp only [decide_true] at si
      clear k0 k1 k2 k3 k4 lC C xf b12 tv o12 hA
      go_wp2_with fail
      go_at_call 48
      refine si.mono ?_
      rintro e W13 ⟨rfl, b13⟩
      have h8 := h8.below b13
      have h10 := h10.below b13
      have t13 := t12.trans (b13.mono t12.size)
      clear si b13 t12
      go_wp2_with fail
      go_loopw [17] (fun i U => ∃ k : Nat, k ≤ X.length ∧ i = .int .i64 k ∧ Below W13.heap.size W13 U) (fun i _ => X.length - (intOf i).toNat)
      case atStart => exact ⟨0, Nat.zero_le _, rfl, Below.refl _ _⟩
      case round =>
        obtain ⟨k, hk, rfl, hb⟩ := hrel
        have tb := t13.trans (hb.mono t13.size)
        by_cases hlt : k < X.length
        · have hkI : (k : Int) < (X.length : Int) := by omega
          have hk0 : (0 : Int) ≤ (k : Int) := by omega
          have iw : IntKind.i64.wrap ((k : Int) + 1) = (k : Int) + 1 := IntWalk.i64_in _ (by omega)
          obtain ⟨b1, f1, rfl, l1, p1⟩ := (h8.below hb) k hlt
          obtain ⟨b2, f2, rfl, l2, p2⟩ := (h10.below hb) k (by have := hXl.out; omega)
          have hXk := hXk k hlt
          generalize X.getD k 0 = u at p1 hXk
          generalize Y.getD k 0 = v at p2 hXk
          by_cases hu : 0 ≤ u
          · obtain ⟨n1, n2⟩ := hXk hu
            have n3 : ¬ (v < 0) := by omega
            have n4 : ¬ (u < v) := by omega
            go_upto_region 17 with fail
            (refine wp_region_ext 23 (by kernel_rfl) (by kernel_rfl) ?_; simp only [List.take_succ_cons, List.take_zero, List.drop_succ_cons, List.drop_zero]; (repeat (go_big_quiet_step ((fail)))); refine wpQuiet_nil ?_; rintro _ ⟨ex, rfl⟩; have hex := ex.below; have hexz := ex.size; (try simp at hexz); (try (have hy0 : w.heap.size < ex.to.heap.size := by omega)); (try (have hy1 : w.heap.size + 1 < ex.to.heap.size := by omega)); (try (have hy2 : w.heap.size + 2 < ex.to.heap.size := by omega)))
            obtain ⟨w1, hX⟩ : ∃ z : World, z = ex.to := ⟨_, rfl⟩
            rw [← hX] at hex ⊢
            clear hX hexz
            go_wp2_with fail
            go_round
            case rel => exact ⟨k + 1, by omega, by go_num, hb.trans (hex.mono hb.size)⟩
            case measure => simp [intOf]; omega
          · go_upto_region 17 with fail
            (refine wp_region_ext 23 (by kernel_rfl) (by kernel_rfl) ?_; simp only [List.take_succ_cons, List.take_zero, List.drop_succ_cons, List.drop_zero]; (repeat (go_big_quiet_step ((fail)))); refine wpQuiet_nil ?_; rintro _ ⟨ex, rfl⟩; have hex := ex.below; have hexz := ex.size; (try simp at hexz); (try (have hy0 : w.heap.size < ex.to.heap.size := by omega)); (try (have hy1 : w.heap.size + 1 < ex.to.heap.size := by omega)); (try (have hy2 : w.heap.size + 2 < ex.to.heap.size := by omega)))
            obtain ⟨w1, hX⟩ : ∃ z : World, z = ex.to := ⟨_, rfl⟩
            rw [← hX] at hex ⊢
            clear hX hexz
            go_wp2_with fail
            go_round
            case rel => exact ⟨k + 1, by omega, by go_num, hb.trans (hex.mono hb.size)⟩
            case measure => simp [intOf]; omega
        · obtain rfl : k = X.length := by omega
          go_wp2_with fail
          go_at_call 37
          refine (awake_any _ (hv.below tb)).mono ?_
          rintro e W14 ⟨rfl, b14⟩
          go_wp2_with fail
          go_ret
          exact ⟨rfl, tb.trans (b14.mono tb.size)⟩
end Go.Proofs.YticjeianiahppaaGreatDoor
