/- book, laws: BookWords -/
import Derived.Test.YticjeianiahppaaGreatDoorVh
import Derived.Test.YticjeianiahppaaGreatDoorVw
namespace Go.Proofs.YticjeianiahppaaGreatDoor
set_option linter.unusedVariables false
set_option linter.unusedSimpArgs false
set_option linter.unnecessarySimpa false
open Go.RowKit Go.Flow
set_option maxRecDepth 100000 in
set_option maxHeartbeats 4000000 in
theorem bookWords_walk (a : Option Addr) (l : List ByteArray) (c : Nat) (which low high : Int) (w : World) (hl : StrsAt w a l) (hn : a = none → c = 0) (hm : l.length ≤ 9223372036854775807) (_ : l.length ≤ c) (hwhich : 0 ≤ which ∧ which ≤ 255) (hlow : 0 ≤ low ∧ low ≤ 255) (hhigh : 0 ≤ high ∧ high ≤ 255) (hv : Vars w) :
    Calls Tryz.prog 14 #[.slice a l.length c, .int .u8 which, .int .u8 low, .int .u8 high] w fun e w' => e = .returned (.bool true) ∧ Below w.heap.size w w' := by
  have rd : Calls _ _ #[.slice a l.length c, .int .i64 49] w _ := ready_any a c 49 l w hl hm
  cases hr : readyB l 49
  · rw [hr] at rd
    clear hr
    go_enter Tryz.func14, Tryz.ntmps14
    go_wp2_with fail
    go_at_call 55
    refine rd.mono ?_
    rintro e W1 ⟨rfl, b1⟩
    go_wp2_with fail
    go_at_call 37
    refine (awake_any W1 (hv.below b1)).mono ?_
    rintro e W2 ⟨rfl, b2⟩
    go_wp2_with fail
    go_ret
    exact ⟨rfl, b1.trans (b2.mono b1.size)⟩
  · obtain ⟨h0, h49, h50⟩ := ready_ok hr
    rw [hr] at rd
    clear hr
    obtain ⟨p, hp, hpm⟩ := mod_small hwhich.1 6 (by decide)
    simp only [Int.cast_ofNat_Int] at hpm
    have pw : IntKind.i64.wrap (p : Int) = (p : Int) := IntWalk.i64_in _ (by omega)
    have kw : IntKind.i64.wrap which = which := IntWalk.i64_in _ (by omega)
    have lw : IntKind.i64.wrap low = low := IntWalk.i64_in _ (by omega)
    have hw : IntKind.i64.wrap high = high := IntWalk.i64_in _ (by omega)
    obtain ⟨x, hx⟩ : ∃ x : ByteArray, x = ⟨(Lib.itoa (p : Int)).toArray⟩ := ⟨_, rfl⟩
    obtain ⟨y, hy⟩ : ∃ x : ByteArray, x = ⟨(Lib.itoa low).toArray⟩ := ⟨_, rfl⟩
    obtain ⟨z, hz⟩ : ∃ x : ByteArray, x = ⟨(Lib.itoa high).toArray⟩ := ⟨_, rfl⟩
    have sz : ∀ n : Int, 0 ≤ n → n ≤ 255 → (⟨(Lib.itoa n).toArray⟩ : ByteArray).size ≤ 3 := fun n h1 h2 => by
      have := itoa_len3 n.toNat (by omega)
      rw [Int.toNat_of_nonneg h1] at this
      exact this
    have xs : x.size ≤ 3 := by rw [hx]; exact sz _ (by omega) (by omega)
    have ys : y.size ≤ 3 := by rw [hy]; exact sz _ hlow.1 hlow.2
    have zs_ : z.size ≤ 3 := by rw [hz]; exact sz _ hhigh.1 hhigh.2
    have tx := fun W => Text_as (p : Int) x W hx (by omega)
    have ty := fun W => Text_as low y W hy (by omega)
    have tz := fun W => Text_as high z W hz (by omega)
    have es := lineB3 .words ⟨#[119, 111, 114, 100, 115, 32]⟩ rfl p low high x y z hx hy hz
    have ps := lineB_parse .words [(p : Int), low, high] rfl (by simp; omega)
    have zs := lineB_size .words [(p : Int), low, high] (by simp) (by simp; omega)
    have hf1 : faultL (l ++ [lineB .words [(p : Int), low, high]]) = 0 := fault_more h0 (by simp; omega) (by simpa using zs)
    have F := after_few l
    have V := after_val l
    have la := words_law V F ps
    rw [← after_snoc] at la
    clear hx hy hz ps zs sz
    generalize lineB .words [(p : Int), low, high] = s at es hf1 la
    obtain ⟨ld, ln, lm⟩ := la
    obtain ⟨M, hM⟩ : ∃ M, M = l ++ [s] := ⟨_, rfl⟩
    rw [← hM] at hf1 ld ln lm
    have hML : M.length = l.length + 1 := by rw [hM]; simp
    obtain ⟨E, hE⟩ : ∃ E, owedE l = E := ⟨_, rfl⟩
    have hE2 : owedE M = E := by
      rw [← hE]; unfold owedE; rw [h0, hf1]
      by_cases hd : (afterL l).ds = []
      · have hd2 : (afterL M).ds = [] := List.eq_nil_of_length_eq_zero (by rw [ld, hd]; rfl)
        simp [hd, hd2]
      · have hd2 : (afterL M).ds ≠ [] := fun e => hd (List.eq_nil_of_length_eq_zero (by rw [← ld, e]; rfl))
        simp [hd, hd2]
    have hEd : (E = 7 ∧ (afterL l).ds = []) ∨ (E = 0 ∧ (afterL l).ds ≠ []) := by
      rw [← hE]; unfold owedE; rw [h0]
      by_cases hd : (afterL l).ds = []
      · left; simp [hd]
      · right; simp [hd]
    obtain ⟨X, hX⟩ : ∃ X, owedL l = X := ⟨_, rfl⟩
    obtain ⟨Y, hY⟩ : ∃ X, owedL M = X := ⟨_, rfl⟩
    have hX2 : E = 0 → X = Pay.bdOut (afterL l).acc := fun h => by rw [← hX]; unfold owedL; rw [hE, if_pos h]
    have hXY : X.length = Y.length ∧ ∀ k, k < X.length → (X.getD k (0, 0)).1 ≤ (Y.getD k (0, 0)).1 ∧ (Y.getD k (0, 0)).2 ≤ (X.getD k (0, 0)).2 := by
      rw [← hX, ← hY]
      unfold owedL
      rw [hE, hE2]
      by_cases h : E = 0
      · rw [if_pos h, if_pos h]
        exact ⟨ln.symm, lm⟩
      · rw [if_neg h, if_neg h]; exact ⟨rfl, fun k hk => absurd hk (Nat.not_lt_zero k)⟩
    have hX8 : X.length ≤ 8 := by
      rw [← hX]; unfold owedL
      split
      · unfold Pay.bdOut
        split
        · show ((List.range _).map _).length ≤ 8
          rw [List.length_map, List.length_range]
          show (7 : Int).toNat ≤ 8
          decide
        · simp
      · simp
    obtain ⟨hXl, hXk⟩ := hXY
    replace hXl := Lib.hid hXl
    have pd := V.paid F
    have ls := fun W (b : Below w.heap.size w W) => list_as a c l.length l W rfl (hl.below b) hn (by omega)
    have ex1 := fun (W : World) (b : Below w.heap.size w W) a' c' h' => Owed_as a' c' l.length l W hE hX rfl h' (by omega) (hv.below b)
    have ex2 := fun (W : World) (b : Below w.heap.size w W) a' c' h' => Owed_as a' c' (l.length + 1) M W hE2 hY hML h' (by omega) (hv.below b)
    have pl := fun W (b : Below w.heap.size w W) => played_as a c l.length l W rfl rfl rfl (hl.below b) hn h0 (hv.below b)
    replace hM := Lib.hid hM
    clear hE hE2 hX hY hf1 ld ln lm V h0
    replace hML := Lib.hid hML
    generalize afterL l = S at *
    unfold PlayedAs at pl
    unfold RetR at ex1 ex2
    go_enter Tryz.func14, Tryz.ntmps14
    go_wp2_with fail
    go_at_call 55
    refine rd.mono ?_
    rintro e W1 ⟨rfl, b1⟩
    clear rd
    go_wp2_with fail
    go_at_call 38
    refine (ls W1 b1).mono ?_
    rintro e W2 ⟨⟨a2, c2, rfl, o2⟩, b2⟩
    have o2 := o2.base_le b1.size
    have t2 := b1.trans (b2.mono b1.size)
    go_wp2_with fail
    go_at_call 63
    refine (tx W2).mono ?_
    rintro e W3 ⟨rfl, b3⟩
    have o3 := o2.kept b3
    have t3 := t2.trans (b3.mono t2.size)
    go_wp2_with fail
    go_at_call 63
    refine (ty W3).mono ?_
    rintro e W4 ⟨rfl, b4⟩
    have o4 := o3.kept b4
    have t4 := t3.trans (b4.mono t3.size)
    clear o2 o3 t2 t3 b1 b2 b3 b4 tx ty
    go_wp2_with fail
    go_at_call 63
    refine (tz W4).mono ?_
    rintro e W4' ⟨rfl, b4⟩
    have o4 := o4.kept b4
    have t4 := t4.trans (b4.mono t4.size)
    clear b4 tz
    have b5 : Below W4'.heap.size W4' (W4'.alloc (.cells #[.string s] 9)) := Joins.below_alloc1 _ _
    have src : SrcAt (W4'.alloc (.cells #[.string s] 9)) (some ⟨W4'.heap.size, 0, none⟩) [.string s] := fun j u hu => by
      match j, hu with
      | 0, hu => simp at hu; subst hu; exact ⟨_, 0, rfl, by simp⟩
      | j + 1, hu => simp at hu
    go_wp2_with (at_builtin; refine wpList_app elStr rfl _ _ rfl w.heap.size _ _ _ _ rfl (o4.kept b5) (some ⟨W4'.heap.size, 0, none⟩) 1 1 [.string s] rfl (fun h => by cases h) (by simp) src (fun u hu => by simp at hu; subst hu; rfl) (by unfold maxLen; omega) (by omega) (by have := t4.size; simp; omega) ?_)
    intro a6 c6 W6 o6 b6
    have o6 : OwnL 9 1 w.heap.size W6 a6 c6 (l.length + 1) (M.map Value.string) := by rw [hM.out, List.map_append]; exact o6
    have t6 : Below w.heap.size w W6 := (t4.trans (b5.mono t4.size)).trans b6
    clear o4 t4 b5 b6 src
    go_wp2_with fail
    go_at_call 38
    refine (ls W6 t6).mono ?_
    rintro e W7 ⟨⟨a7, c7, rfl, o7⟩, b7⟩
    have o6 := o6.kept b7
    have t7 := t6.trans (b7.mono t6.size)
    clear b7 t6
    go_wp2_with fail
    go_at_call 50
    refine (ex1 W7 t7 a7 c7 o7.strs).mono ?_
    rintro e W8 ⟨⟨a8, c8, rfl, h8⟩, b8⟩
    have o6 := o6.kept b8
    have t8 := t7.trans (b8.mono t7.size)
    clear b8 t7 o7
    go_wp2_with fail
    go_at_call 38
    refine (list_as a6 c6 (l.length + 1) M W8 hML.out o6.strs (fun h => by subst h; exact o6.isnil.2) (by have := hML.out; omega)).mono ?_
    rintro e W9 ⟨⟨a9, c9, rfl, o9⟩, b9⟩
    have h8 := h8.below b9
    have t9 := t8.trans (b9.mono t8.size)
    clear b9 t8 o6
    go_wp2_with fail
    go_at_call 50
    refine (ex2 W9 t9 a9 c9 o9.strs).mono ?_
    rintro e W10 ⟨⟨a10, c10, rfl, h10⟩, b10⟩
    have h8 := h8.below b10
    have t10 := t9.trans (b10.mono t9.size)
    clear b10 t9 o9 ex1 ex2 ls
    rw [← hXl.out]
    go_wp2_with fail
    go_at_call 56
    refine (pl W10 t10).mono ?_
    rintro e W11 ⟨⟨A, a11, c11, rfl, hA, _⟩, b11⟩
    have h8 := h8.below b11
    have h10 := h10.below b11
    have t11 := t10.trans (b11.mono t10.size)
    clear b11 t10 pl
    go_upto_region 7 with fail
    obtain ⟨V, hV⟩ : ∃ x : World, x = W11.alloc (.cells (stCells S A) 57) := ⟨_, rfl⟩
    have bv : Below W11.heap.size W11 V := by rw [hV]; exact Joins.below_alloc1 _ _
    have C : Cells V W11.heap.size (stCells S A) 57 := by rw [hV]; exact Cells.new _ _ _
    change Code.wp _ _ _ _ (W11.alloc (.cells (stCells S A) 57))
    rw [← hV]
    clear hV
    have tv := t11.trans (bv.mono t11.size)
    replace hA := hA.below bv
    replace h8 := h8.below bv
    replace h10 := h10.below bv
    generalize W11.heap.size = g at C ⊢
    clear bv t11
    have k9 := C.cell 9
    have k10 := C.cell 10
    have k11 := C.cell 11
    have k12 := C.cell 12
    have lC := C.lt
    simp at k9 k10 k11 k12
    rcases hEd with ⟨rfl, hd⟩ | ⟨rfl, hd⟩
    · have hd0 : S.ds.length = 0 := by rw [hd]; rfl
      rw [hd0] at k12
      clear hd hd0
      go_wp2_with fail
      go_at_call 37
      refine (awake_any V (hv.below tv)).mono ?_
      rintro e W12 ⟨rfl, b12⟩
      go_wp2_with fail
      go_ret
      exact ⟨rfl, tv.trans (b12.mono tv.size)⟩
    · have hb : Pay.bdOut ⟨7, S.rate, S.keeps, S.ds⟩ = X := (hX2 rfl).symm
      have bd := Pay.Bounds_good 7 S.rate S.keeps S.ds A.aa A.ca V hA.ds.atD ⟨by have := F.ds; show S.ds.length ≤ 1000; omega, fun d hd => by have := F.passed d hd; omega⟩ pd
      rw [hb] at bd
      clear hX2 hd pd hb
      go_wp2_with fail
      go_at_call 65
      refine bd.mono ?_
      rintro e W12 ⟨⟨a12, c12, rfl, h12⟩, b12⟩
      have h8 := h8.below b12
      have h10 := h10.below b12
      have t12 := tv.trans (b12.mono tv.size)
      clear k9 k10 k11 k12 lC C bd b12 tv hA
      go_wp2_with fail
      go_loopw [19] (fun i U => ∃ k : Nat, k ≤ X.length ∧ i = .int .i64 k ∧ Below W12.heap.size W12 U) (fun i _ => X.length - (intOf i).toNat)
      case atStart => exact ⟨0, Nat.zero_le _, rfl, Below.refl _ _⟩
      case round =>
        obtain ⟨k, hk, rfl, hb⟩ := hrel
        have tb := t12.trans (hb.mono t12.size)
        by_cases hlt : k < X.length
        · have hkI : (k : Int) < (X.length : Int) := by omega
          have hk0 : (0 : Int) ≤ (k : Int) := by omega
          have iw : IntKind.i64.wrap ((k : Int) + 1) = (k : Int) + 1 := IntWalk.i64_in _ (by omega)
          have hlY : k < Y.length := by have := hXl.out; omega
          have hXk := hXk k hlt
          rw [List.getD_eq_getElem?_getD, List.getD_eq_getElem?_getD, List.getElem?_eq_getElem hlt, List.getElem?_eq_getElem hlY] at hXk
          simp only [Option.getD_some] at hXk
          obtain ⟨b1, f1, cs1, rr1, lb1, _, rfl, c1⟩ := (listP (h8.below hb)).cell hlt (by omega)
          have p0 := c1 0 _ rfl
          have p1 := c1 1 _ rfl
          obtain ⟨b2, f2, cs2, rr2, lb2, _, rfl, c2⟩ := (listP (h10.below hb)).cell hlY (by omega)
          have q0 := c2 0 _ rfl
          have q1 := c2 1 _ rfl
          obtain ⟨b3, f3, cs3, rr3, lb3, _, rfl, c3⟩ := (listP (h12.below hb)).cell hlt (by omega)
          have r0 := c3 0 _ rfl
          have r1 := c3 1 _ rfl
          clear c1 c2 c3
          simp only [Nat.add_zero] at p0 q0 r0
          generalize X[k] = u at *
          generalize Y[k] = v at *
          obtain ⟨u1, u2⟩ := u
          obtain ⟨v1, v2⟩ := v
          simp only at *
          have n1 : ¬ (v1 < u1) := by omega
          have n2 : ¬ (u2 < v2) := by omega
          subst rr1 rr2 rr3
          go_upto_region 17 with fail
          (refine wp_region_ext 35 (by kernel_rfl) (by kernel_rfl) ?_; simp only [List.take_succ_cons, List.take_zero, List.drop_succ_cons, List.drop_zero]; (repeat (go_big_quiet_step ((fail)))); refine wpQuiet_nil ?_; rintro _ ⟨ex, rfl⟩; have hex := ex.below; have hexz := ex.size; (try simp at hexz); (try (have hy0 : w.heap.size < ex.to.heap.size := by omega)); (try (have hy1 : w.heap.size + 1 < ex.to.heap.size := by omega)); (try (have hy2 : w.heap.size + 2 < ex.to.heap.size := by omega)))
          obtain ⟨w1, hX⟩ : ∃ z : World, z = ex.to := ⟨_, rfl⟩
          rw [← hX] at hex ⊢
          clear hX hexz
          go_wp2_with fail
          go_round
          case rel => exact ⟨k + 1, by omega, by go_num, hb.trans (hex.mono hb.size)⟩
          case measure => simp [intOf]; omega
        · obtain rfl : k = X.length := by omega
          go_wp2_with fail
          go_at_call 37
          refine (awake_any _ (hv.below tb)).mono ?_
          rintro e W14 ⟨rfl, b14⟩
          go_wp2_with fail
          go_ret
          exact ⟨rfl, tb.trans (b14.mono tb.size)⟩
end Go.Proofs.YticjeianiahppaaGreatDoor
