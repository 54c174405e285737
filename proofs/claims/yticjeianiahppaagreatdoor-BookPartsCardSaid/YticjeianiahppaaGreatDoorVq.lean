/- book, laws: BookParts -/
import Derived.Test.YticjeianiahppaaGreatDoorGh
import Derived.Test.YticjeianiahppaaGreatDoorGi
import Derived.Test.YticjeianiahppaaGreatDoorGd
import Derived.Test.YticjeianiahppaaGreatDoorGc
namespace Go.Proofs.YticjeianiahppaaGreatDoor
set_option linter.unusedVariables false
set_option linter.unusedSimpArgs false
set_option linter.unnecessarySimpa false
open Go.RowKit Go.Flow
theorem cells_same {w : World} {g : Nat} {cs cs' : Array Value} {T : TypeId} (h : Cells w g cs T) (h' : Cells w g cs' T) : cs = cs' := by
  have := (show w.heap[g]? = _ from h).symm.trans h'
  simpa using this
/-- What two tells have laid: results that are the same where the line's word does not matter. -/
def TwoTold (c1 c2 c3 : Prop) (w0 W : World) (x y : Nat) : Prop := Below w0.heap.size w0 W ∧ ∃ (Ea Fa Ga Eb Fb Gb : Int) (Xa Ya Xb Yb : List Int) (Za Ua Zb Ub : List (Int × Int)),
  ToldAt Ea Fa Ga Xa Ya Za Ua W x ∧ ToldAt Eb Fb Gb Xb Yb Zb Ub W y ∧ Xa.length ≤ 1000 ∧ Ya.length ≤ 1000 ∧ Za.length ≤ 1000 ∧ Ua.length ≤ 1000 ∧
  (c1 → Eb = Ea ∧ Xb = Xa) ∧ (c2 → Fb = Fa ∧ Zb = Za ∧ Yb = Ya) ∧ (c3 → Gb = Ga ∧ Ub = Ua)
set_option maxRecDepth 100000 in
set_option maxHeartbeats 8000000 in
theorem bookParts_walk (a : Option Addr) (l : List ByteArray) (c : Nat) (at_ : Int) (w : World) (hl : StrsAt w a l) (hn : a = none → c = 0) (hm : l.length ≤ 9223372036854775807) (hc : l.length ≤ c) (hat : 0 ≤ at_ ∧ at_ ≤ 255) (hv : Vars w) :
    Calls Tryz.prog 11 #[.slice a l.length c, .int .u8 at_] w fun e w' => e = .returned (.bool true) ∧ Below w.heap.size w w' := by
  have rd : Calls _ _ #[.slice a l.length c, .int .i64 50] w _ := ready_any a c 50 l w hl hm
  cases hr : readyB l 50
  · rw [hr] at rd
    clear hr
    go_enter Tryz.func11, Tryz.ntmps11
    go_wp2_with fail
    go_at_call 55
    refine rd.mono ?_
    rintro e W1 ⟨rfl, b1⟩
    go_wp2_with fail
    go_at_call 37
    refine (awake_any W1 (hv.below b1)).mono ?_
    rintro e W2 ⟨rfl, b2⟩
    go_wp2_with fail
    go_ret
    exact ⟨rfl, b1.trans (b2.mono b1.size)⟩
  · obtain ⟨h0, _, h50⟩ := ready_ok hr
    rw [hr] at rd
    clear hr
    by_cases hz : l.length = 0
    · rw [hz] at rd ⊢
      clear hl hm hc hz h50
      go_enter Tryz.func11, Tryz.ntmps11
      go_wp2_with fail
      go_at_call 55
      refine rd.mono ?_
      rintro e W1 ⟨rfl, b1⟩
      go_wp2_with fail
      go_at_call 37
      refine (awake_any W1 (hv.below b1)).mono ?_
      rintro e W2 ⟨rfl, b2⟩
      go_wp2_with fail
      go_ret
      exact ⟨rfl, b1.trans (b2.mono b1.size)⟩
    have hzI : ¬ (l.length : Int) = 0 := by omega
    obtain ⟨k, hk, hkm⟩ : ∃ k : Nat, k < l.length ∧ at_.tmod (l.length : Int) = (k : Int) := by
      refine ⟨at_.toNat % l.length, Nat.mod_lt _ (by omega), ?_⟩
      have : at_ = ((at_.toNat : Nat) : Int) := by omega
      rw [this]; simp [Int.tmod]
    have kw : IntKind.i64.wrap (k : Int) = (k : Int) := IntWalk.i64_in _ (by omega)
    have kw1 : IntKind.i64.wrap ((k : Int) + 1) = (k : Int) + 1 := IntWalk.i64_in _ (by omega)
    have aw : IntKind.i64.wrap at_ = at_ := IntWalk.i64_in _ (by omega)
    have hk0 : (0 : Int) ≤ (k : Int) := by omega
    have hk1 : (0 : Int) ≤ (k : Int) + 1 := by omega
    have hkI : (k : Int) < (l.length : Int) := by omega
    have hkc : (k : Int) ≤ (c : Int) := by omega
    have hkc1 : (k : Int) + 1 ≤ (c : Int) := by omega
    have h80 := (fault_ok h0).2 l[k] (List.getElem_mem hk)
    obtain ⟨q1, q2, q3⟩ := told_line hk h0
    have tl := fun W (b : Below w.heap.size w W) j (hj : j ≤ l.length) => tells_any a c j (l.take j) W rfl rfl rfl rfl rfl rfl rfl (by rw [List.length_take]; omega) ((hl.take j).below b) hn (by rw [List.length_take]; omega) (hv.below b)
    have ta := fun W b => tl W b k (by omega)
    have tb := fun W b => tl W b (k + 1) (by omega)
    have zX := exposed_len (l.take k)
    have zY := sure_len (l.take k)
    have zZ := spans_len (l.take k)
    have zU := owed_len (l.take k)
    have yX := exposed_len (l.take (k + 1))
    have yY := sure_len (l.take (k + 1))
    have yZ := spans_len (l.take (k + 1))
    have yU := owed_len (l.take (k + 1))
    clear tl
    obtain ⟨bb, off, rfl, lb, hcell⟩ := hl k hk
    have ps := fun W => Parse_any l[k] W (by omega)
    generalize l[k] = s at ps hcell q1 q2 q3 h80
    generalize exposedE (l.take k) = Ea at *
    generalize exposedE (l.take (k + 1)) = Eb at *
    generalize copiesE (l.take k) = Fa at *
    generalize copiesE (l.take (k + 1)) = Fb at *
    generalize owedE (l.take k) = Ga at *
    generalize owedE (l.take (k + 1)) = Gb at *
    generalize exposedL (l.take k) = Xa at *
    generalize exposedL (l.take (k + 1)) = Xb at *
    generalize sureL (l.take k) = Ya at *
    generalize sureL (l.take (k + 1)) = Yb at *
    generalize spansL (l.take k) = Za at *
    generalize spansL (l.take (k + 1)) = Zb at *
    generalize owedL (l.take k) = Ua at *
    generalize owedL (l.take (k + 1)) = Ub at *
    replace q1 := Lib.hid q1
    replace q2 := Lib.hid q2
    replace q3 := Lib.hid q3
    clear h0 hl
    go_enter Tryz.func11, Tryz.ntmps11
    go_wp2_with fail
    go_at_call 55
    refine rd.mono ?_
    rintro e W1 ⟨rfl, b1⟩
    have hcell := below_cell b1 hcell
    have lb := Nat.lt_of_lt_of_le lb b1.size
    clear rd
    go_wp2_with fail
    go_at_call 58
    refine (ps W1).mono ?_
    rintro e W2 ⟨hp, b2⟩
    have t2 := b1.trans (b2.mono b1.size)
    obtain ⟨s0, a0, n0, d0, is, he, hq⟩ : ∃ s0 a0 n0 d0 is, e = .returned (.tuple #[.string s0, .slice a0 n0 d0, .bool is]) ∧ ((is = false ∧ parseF s = none) ∨ ∃ c n, is = true ∧ s0 = ⟨c.word.toArray⟩ ∧ parseF s = some (c, n)) := by
      rcases hp with ⟨h1, rfl⟩ | ⟨c, n, a, d, h1, rfl⟩
      · exact ⟨_, _, _, _, _, rfl, .inl ⟨rfl, h1⟩⟩
      · exact ⟨_, _, _, _, _, rfl, .inr ⟨c, n, rfl, rfl, h1⟩⟩
    subst he
    replace hq := Lib.hid hq
    clear hp ps b1 b2 hcell lb h80
    · go_upto_region 5 with fail
      (refine wp_region_seq 11 [] [11, 12] 126 [true, true, true, false, true, true, true, true, false, false, false] [ToldV Ea Fa Ga Xa Ya Za Ua, ToldV Eb Fb Gb Xb Yb Zb Ub, PtrV w.heap.size #[.slice none 0 0, .slice none 0 0, .slice none 0 0, .slice none 0 0, .int .i64 0, .int .i64 0, .int .i64 0] 117, PtrV w.heap.size #[.slice none 0 0, .slice none 0 0, .slice none 0 0, .slice none 0 0, .int .i64 0, .int .i64 0, .int .i64 0] 117] (by kernel_rfl) (by kernel_rfl) rfl (mono_cons (fun v w w' h hb => h.kept hb) (mono_cons (fun v w w' h hb => h.kept hb) (mono_cons (fun v w w' h hb => h.kept hb) (mono_cons (fun v w w' h hb => h.kept hb) mono_nil)))) ?_; simp only [pickOps, List.filterMap_cons, List.filterMap_nil, List.getElem?_toArray, List.getElem?_cons_succ, List.getElem?_cons_zero]; (repeat (refine wpFl_step _ rfl (fun w => (by go_simp; rfl)) ?_)); refine wpFl_nil ?_; simp only [maskOps, dummy, Act.put, List.setIfInBounds_toArray, List.set_cons_zero, List.set_cons_succ, List.take_succ_cons, List.take_zero, List.drop_succ_cons, List.drop_zero]; (repeat (refine wpQB_step (fun K hK => ?_); go_simp; first | (refine hK _ ?_; clear hK K) | (apply Exists.intro; refine ⟨fun ex => ?_, hK _ ?_⟩; (fail); clear hK K))); refine wpQB_nil ?_; simp only [relObl2, under, relEnd, and_true, List.nil_append, List.cons_append])
      refine ⟨⟨?_, ?_, ?_, ?_⟩, ?_⟩
      · intro e
        go_simp
        refine (ta e.to (t2.trans (e.below.mono t2.size))).mono ?_
        rintro _ _ ⟨⟨v, rfl, hT⟩, b⟩
        exact ⟨b, hT⟩
      · intro e v1 _
        go_simp
        refine (tb e.to (t2.trans (e.below.mono t2.size))).mono ?_
        rintro _ _ ⟨⟨v, rfl, hT⟩, b⟩
        exact ⟨b, hT⟩
      · intro e v1 _ v2 _
        go_simp
        exact ⟨(Below.refl _ _).alloc (Nat.le_refl _) _, e.to.heap.size, rfl, (t2.trans (e.below.mono t2.size)).size, Cells.new _ _ _⟩
      · intro e v1 _ v2 _ v3 _
        go_simp
        exact ⟨(Below.refl _ _).alloc (Nat.le_refl _) _, e.to.heap.size, rfl, (t2.trans (e.below.mono t2.size)).size, Cells.new _ _ _⟩
      intro e
      rintro v1 h1 v2 h2 v3 ⟨x, rfl, hxw, cx⟩ v4 ⟨y, rfl, hyw, cy⟩
      simp only [Act.put, List.setIfInBounds_toArray, List.set_cons_zero, List.set_cons_succ]
      have tV := t2.trans (e.below.mono t2.size)
      obtain ⟨V0, hV0⟩ : ∃ z : World, z = e.to := ⟨_, rfl⟩
      rw [← hV0] at h1 h2 cx cy tV ⊢
      clear hV0 e
      obtain ⟨a1, c1, a2, c2, a3, c3, a4, c4, rfl, o1, o2, o3, o4⟩ := h1
      obtain ⟨p1, d1, p2, d2, p3, d3, p4, d4, rfl, r1, r2, r3, r4⟩ := h2
      have k0 := cx.cell 0
      have k1 := cx.cell 1
      have k2 := cx.cell 2
      have k3 := cx.cell 3
      have k4 := cx.cell 4
      have k5 := cx.cell 5
      have k6 := cx.cell 6
      simp at k0 k1 k2 k3 k4 k5 k6
      have f0 := cx.frozen 0
      have f1 := cx.frozen 1
      have f2 := cx.frozen 2
      have f3 := cx.frozen 3
      have f4 := cx.frozen 4
      have f5 := cx.frozen 5
      have f6 := cx.frozen 6
      have lk := cx.lt
      by_cases hxy : x = y
      all_goals first
        | (subst hxy
           go_upto_region 6 with fail
           have tW := below7 (below7 tV hxw (.slice a1 Xa.length c1) (.slice a2 Ya.length c2) (.slice a3 Za.length c3) (.slice a4 Ua.length c4) (.int .i64 Ea) (.int .i64 Fa) (.int .i64 Ga)) hxw (.slice p1 Xb.length d1) (.slice p2 Yb.length d2) (.slice p3 Zb.length d3) (.slice p4 Ub.length d4) (.int .i64 Eb) (.int .i64 Fb) (.int .i64 Gb)
           have CX := set7 (set7 cx (.slice a1 Xa.length c1) (.slice a2 Ya.length c2) (.slice a3 Za.length c3) (.slice a4 Ua.length c4) (.int .i64 Ea) (.int .i64 Fa) (.int .i64 Ga)) (.slice p1 Xb.length d1) (.slice p2 Yb.length d2) (.slice p3 Zb.length d3) (.slice p4 Ub.length d4) (.int .i64 Eb) (.int .i64 Fb) (.int .i64 Gb)
           have s1 := own7 (own7 r1 cx (by decide) (.slice a1 Xa.length c1) (.slice a2 Ya.length c2) (.slice a3 Za.length c3) (.slice a4 Ua.length c4) (.int .i64 Ea) (.int .i64 Fa) (.int .i64 Ga)) (set7 cx (.slice a1 Xa.length c1) (.slice a2 Ya.length c2) (.slice a3 Za.length c3) (.slice a4 Ua.length c4) (.int .i64 Ea) (.int .i64 Fa) (.int .i64 Ga)) (by decide) (.slice p1 Xb.length d1) (.slice p2 Yb.length d2) (.slice p3 Zb.length d3) (.slice p4 Ub.length d4) (.int .i64 Eb) (.int .i64 Fb) (.int .i64 Gb)
           have s2 := own7 (own7 r2 cx (by decide) (.slice a1 Xa.length c1) (.slice a2 Ya.length c2) (.slice a3 Za.length c3) (.slice a4 Ua.length c4) (.int .i64 Ea) (.int .i64 Fa) (.int .i64 Ga)) (set7 cx (.slice a1 Xa.length c1) (.slice a2 Ya.length c2) (.slice a3 Za.length c3) (.slice a4 Ua.length c4) (.int .i64 Ea) (.int .i64 Fa) (.int .i64 Ga)) (by decide) (.slice p1 Xb.length d1) (.slice p2 Yb.length d2) (.slice p3 Zb.length d3) (.slice p4 Ub.length d4) (.int .i64 Eb) (.int .i64 Fb) (.int .i64 Gb)
           have s3 := own7 (own7 r3 cx (by decide) (.slice a1 Xa.length c1) (.slice a2 Ya.length c2) (.slice a3 Za.length c3) (.slice a4 Ua.length c4) (.int .i64 Ea) (.int .i64 Fa) (.int .i64 Ga)) (set7 cx (.slice a1 Xa.length c1) (.slice a2 Ya.length c2) (.slice a3 Za.length c3) (.slice a4 Ua.length c4) (.int .i64 Ea) (.int .i64 Fa) (.int .i64 Ga)) (by decide) (.slice p1 Xb.length d1) (.slice p2 Yb.length d2) (.slice p3 Zb.length d3) (.slice p4 Ub.length d4) (.int .i64 Eb) (.int .i64 Fb) (.int .i64 Gb)
           have s4 := own7 (own7 r4 cx (by decide) (.slice a1 Xa.length c1) (.slice a2 Ya.length c2) (.slice a3 Za.length c3) (.slice a4 Ua.length c4) (.int .i64 Ea) (.int .i64 Fa) (.int .i64 Ga)) (set7 cx (.slice a1 Xa.length c1) (.slice a2 Ya.length c2) (.slice a3 Za.length c3) (.slice a4 Ua.length c4) (.int .i64 Ea) (.int .i64 Fa) (.int .i64 Ga)) (by decide) (.slice p1 Xb.length d1) (.slice p2 Yb.length d2) (.slice p3 Zb.length d3) (.slice p4 Ub.length d4) (.int .i64 Eb) (.int .i64 Fb) (.int .i64 Gb)
           obtain ⟨W', hW'⟩ : ∃ z : World, z = ((((((((((((((V0.setCell ⟨x, 0, none⟩ (.slice a1 Xa.length c1)).setCell ⟨x, 1, none⟩ (.slice a2 Ya.length c2)).setCell ⟨x, 2, none⟩ (.slice a3 Za.length c3)).setCell ⟨x, 3, none⟩ (.slice a4 Ua.length c4)).setCell ⟨x, 4, none⟩ (.int .i64 Ea)).setCell ⟨x, 5, none⟩ (.int .i64 Fa)).setCell ⟨x, 6, none⟩ (.int .i64 Ga)).setCell ⟨x, 0, none⟩ (.slice p1 Xb.length d1)).setCell ⟨x, 1, none⟩ (.slice p2 Yb.length d2)).setCell ⟨x, 2, none⟩ (.slice p3 Zb.length d3)).setCell ⟨x, 3, none⟩ (.slice p4 Ub.length d4)).setCell ⟨x, 4, none⟩ (.int .i64 Eb)).setCell ⟨x, 5, none⟩ (.int .i64 Fb)).setCell ⟨x, 6, none⟩ (.int .i64 Gb)) := ⟨_, rfl⟩
           rw [← hW'] at tW CX s1 s2 s3 s4 ⊢
           clear hW'
           have hT : TwoTold (∀ c n, parseF s = some (c, n) → c.part ≠ .codes) (∀ c n, parseF s = some (c, n) → c.part ≠ .post) (∀ c n, parseF s = some (c, n) → c.part ≠ .account) w W' x x := ⟨tW, Eb, Fb, Gb, Eb, Fb, Gb, Xb, Yb, Xb, Yb, Zb, Ub, Zb, Ub, ⟨_, _, _, _, _, _, _, _, CX, s1, s2, s3, s4⟩, ⟨_, _, _, _, _, _, _, _, CX, s1, s2, s3, s4⟩, yX, yY, yZ, yU, fun _ => ⟨rfl, rfl⟩, fun _ => ⟨rfl, rfl, rfl⟩, fun _ => ⟨rfl, rfl⟩⟩
           clear tW CX s1 s2 s3 s4 cx cy r1 r2 r3 r4 o1 o2 o3 o4 tV)
        | (have m0 := cy.cell 0
           have m1 := cy.cell 1
           have m2 := cy.cell 2
           have m3 := cy.cell 3
           have m4 := cy.cell 4
           have m5 := cy.cell 5
           have m6 := cy.cell 6
           simp at m0 m1 m2 m3 m4 m5 m6
           have n0 := cy.frozen 0
           have n1 := cy.frozen 1
           have n2 := cy.frozen 2
           have n3 := cy.frozen 3
           have n4 := cy.frozen 4
           have n5 := cy.frozen 5
           have n6 := cy.frozen 6
           have lm := cy.lt
           go_upto_region 6 with fail
           have tW := below7 (below7 tV hxw (.slice a1 Xa.length c1) (.slice a2 Ya.length c2) (.slice a3 Za.length c3) (.slice a4 Ua.length c4) (.int .i64 Ea) (.int .i64 Fa) (.int .i64 Ga)) hyw (.slice p1 Xb.length d1) (.slice p2 Yb.length d2) (.slice p3 Zb.length d3) (.slice p4 Ub.length d4) (.int .i64 Eb) (.int .i64 Fb) (.int .i64 Gb)
           have CX := other7 (set7 cx (.slice a1 Xa.length c1) (.slice a2 Ya.length c2) (.slice a3 Za.length c3) (.slice a4 Ua.length c4) (.int .i64 Ea) (.int .i64 Fa) (.int .i64 Ga)) hxy (.slice p1 Xb.length d1) (.slice p2 Yb.length d2) (.slice p3 Zb.length d3) (.slice p4 Ub.length d4) (.int .i64 Eb) (.int .i64 Fb) (.int .i64 Gb)
           have CY := set7 (other7 cy (Ne.symm hxy) (.slice a1 Xa.length c1) (.slice a2 Ya.length c2) (.slice a3 Za.length c3) (.slice a4 Ua.length c4) (.int .i64 Ea) (.int .i64 Fa) (.int .i64 Ga)) (.slice p1 Xb.length d1) (.slice p2 Yb.length d2) (.slice p3 Zb.length d3) (.slice p4 Ub.length d4) (.int .i64 Eb) (.int .i64 Fb) (.int .i64 Gb)
           have q11 := own7 (own7 o1 cx (by decide) (.slice a1 Xa.length c1) (.slice a2 Ya.length c2) (.slice a3 Za.length c3) (.slice a4 Ua.length c4) (.int .i64 Ea) (.int .i64 Fa) (.int .i64 Ga)) (other7 cy (Ne.symm hxy) (.slice a1 Xa.length c1) (.slice a2 Ya.length c2) (.slice a3 Za.length c3) (.slice a4 Ua.length c4) (.int .i64 Ea) (.int .i64 Fa) (.int .i64 Ga)) (by decide) (.slice p1 Xb.length d1) (.slice p2 Yb.length d2) (.slice p3 Zb.length d3) (.slice p4 Ub.length d4) (.int .i64 Eb) (.int .i64 Fb) (.int .i64 Gb)
           have q12 := own7 (own7 o2 cx (by decide) (.slice a1 Xa.length c1) (.slice a2 Ya.length c2) (.slice a3 Za.length c3) (.slice a4 Ua.length c4) (.int .i64 Ea) (.int .i64 Fa) (.int .i64 Ga)) (other7 cy (Ne.symm hxy) (.slice a1 Xa.length c1) (.slice a2 Ya.length c2) (.slice a3 Za.length c3) (.slice a4 Ua.length c4) (.int .i64 Ea) (.int .i64 Fa) (.int .i64 Ga)) (by decide) (.slice p1 Xb.length d1) (.slice p2 Yb.length d2) (.slice p3 Zb.length d3) (.slice p4 Ub.length d4) (.int .i64 Eb) (.int .i64 Fb) (.int .i64 Gb)
           have q13 := own7 (own7 o3 cx (by decide) (.slice a1 Xa.length c1) (.slice a2 Ya.length c2) (.slice a3 Za.length c3) (.slice a4 Ua.length c4) (.int .i64 Ea) (.int .i64 Fa) (.int .i64 Ga)) (other7 cy (Ne.symm hxy) (.slice a1 Xa.length c1) (.slice a2 Ya.length c2) (.slice a3 Za.length c3) (.slice a4 Ua.length c4) (.int .i64 Ea) (.int .i64 Fa) (.int .i64 Ga)) (by decide) (.slice p1 Xb.length d1) (.slice p2 Yb.length d2) (.slice p3 Zb.length d3) (.slice p4 Ub.length d4) (.int .i64 Eb) (.int .i64 Fb) (.int .i64 Gb)
           have q14 := own7 (own7 o4 cx (by decide) (.slice a1 Xa.length c1) (.slice a2 Ya.length c2) (.slice a3 Za.length c3) (.slice a4 Ua.length c4) (.int .i64 Ea) (.int .i64 Fa) (.int .i64 Ga)) (other7 cy (Ne.symm hxy) (.slice a1 Xa.length c1) (.slice a2 Ya.length c2) (.slice a3 Za.length c3) (.slice a4 Ua.length c4) (.int .i64 Ea) (.int .i64 Fa) (.int .i64 Ga)) (by decide) (.slice p1 Xb.length d1) (.slice p2 Yb.length d2) (.slice p3 Zb.length d3) (.slice p4 Ub.length d4) (.int .i64 Eb) (.int .i64 Fb) (.int .i64 Gb)
           have s1 := own7 (own7 r1 cx (by decide) (.slice a1 Xa.length c1) (.slice a2 Ya.length c2) (.slice a3 Za.length c3) (.slice a4 Ua.length c4) (.int .i64 Ea) (.int .i64 Fa) (.int .i64 Ga)) (other7 cy (Ne.symm hxy) (.slice a1 Xa.length c1) (.slice a2 Ya.length c2) (.slice a3 Za.length c3) (.slice a4 Ua.length c4) (.int .i64 Ea) (.int .i64 Fa) (.int .i64 Ga)) (by decide) (.slice p1 Xb.length d1) (.slice p2 Yb.length d2) (.slice p3 Zb.length d3) (.slice p4 Ub.length d4) (.int .i64 Eb) (.int .i64 Fb) (.int .i64 Gb)
           have s2 := own7 (own7 r2 cx (by decide) (.slice a1 Xa.length c1) (.slice a2 Ya.length c2) (.slice a3 Za.length c3) (.slice a4 Ua.length c4) (.int .i64 Ea) (.int .i64 Fa) (.int .i64 Ga)) (other7 cy (Ne.symm hxy) (.slice a1 Xa.length c1) (.slice a2 Ya.length c2) (.slice a3 Za.length c3) (.slice a4 Ua.length c4) (.int .i64 Ea) (.int .i64 Fa) (.int .i64 Ga)) (by decide) (.slice p1 Xb.length d1) (.slice p2 Yb.length d2) (.slice p3 Zb.length d3) (.slice p4 Ub.length d4) (.int .i64 Eb) (.int .i64 Fb) (.int .i64 Gb)
           have s3 := own7 (own7 r3 cx (by decide) (.slice a1 Xa.length c1) (.slice a2 Ya.length c2) (.slice a3 Za.length c3) (.slice a4 Ua.length c4) (.int .i64 Ea) (.int .i64 Fa) (.int .i64 Ga)) (other7 cy (Ne.symm hxy) (.slice a1 Xa.length c1) (.slice a2 Ya.length c2) (.slice a3 Za.length c3) (.slice a4 Ua.length c4) (.int .i64 Ea) (.int .i64 Fa) (.int .i64 Ga)) (by decide) (.slice p1 Xb.length d1) (.slice p2 Yb.length d2) (.slice p3 Zb.length d3) (.slice p4 Ub.length d4) (.int .i64 Eb) (.int .i64 Fb) (.int .i64 Gb)
           have s4 := own7 (own7 r4 cx (by decide) (.slice a1 Xa.length c1) (.slice a2 Ya.length c2) (.slice a3 Za.length c3) (.slice a4 Ua.length c4) (.int .i64 Ea) (.int .i64 Fa) (.int .i64 Ga)) (other7 cy (Ne.symm hxy) (.slice a1 Xa.length c1) (.slice a2 Ya.length c2) (.slice a3 Za.length c3) (.slice a4 Ua.length c4) (.int .i64 Ea) (.int .i64 Fa) (.int .i64 Ga)) (by decide) (.slice p1 Xb.length d1) (.slice p2 Yb.length d2) (.slice p3 Zb.length d3) (.slice p4 Ub.length d4) (.int .i64 Eb) (.int .i64 Fb) (.int .i64 Gb)
           obtain ⟨W', hW'⟩ : ∃ z : World, z = ((((((((((((((V0.setCell ⟨x, 0, none⟩ (.slice a1 Xa.length c1)).setCell ⟨x, 1, none⟩ (.slice a2 Ya.length c2)).setCell ⟨x, 2, none⟩ (.slice a3 Za.length c3)).setCell ⟨x, 3, none⟩ (.slice a4 Ua.length c4)).setCell ⟨x, 4, none⟩ (.int .i64 Ea)).setCell ⟨x, 5, none⟩ (.int .i64 Fa)).setCell ⟨x, 6, none⟩ (.int .i64 Ga)).setCell ⟨y, 0, none⟩ (.slice p1 Xb.length d1)).setCell ⟨y, 1, none⟩ (.slice p2 Yb.length d2)).setCell ⟨y, 2, none⟩ (.slice p3 Zb.length d3)).setCell ⟨y, 3, none⟩ (.slice p4 Ub.length d4)).setCell ⟨y, 4, none⟩ (.int .i64 Eb)).setCell ⟨y, 5, none⟩ (.int .i64 Fb)).setCell ⟨y, 6, none⟩ (.int .i64 Gb)) := ⟨_, rfl⟩
           rw [← hW'] at tW CX CY q11 q12 q13 q14 s1 s2 s3 s4 ⊢
           clear hW'
           have hT : TwoTold (∀ c n, parseF s = some (c, n) → c.part ≠ .codes) (∀ c n, parseF s = some (c, n) → c.part ≠ .post) (∀ c n, parseF s = some (c, n) → c.part ≠ .account) w W' x y := ⟨tW, Ea, Fa, Ga, Eb, Fb, Gb, Xa, Ya, Xb, Yb, Za, Ua, Zb, Ub, ⟨_, _, _, _, _, _, _, _, CX, q11, q12, q13, q14⟩, ⟨_, _, _, _, _, _, _, _, CY, s1, s2, s3, s4⟩, zX, zY, zZ, zU, q1.out, q2.out, q3.out⟩
           clear tW CX CY q11 q12 q13 q14 s1 s2 s3 s4 cx cy r1 r2 r3 r4 o1 o2 o3 o4 tV)
      all_goals
        clear q1 q2 q3 ta tb
        obtain ⟨tV, Ea', Fa', Ga', Eb', Fb', Gb', Xa', Ya', Xb', Yb', Za', Ua', Zb', Ub', ⟨a1, c1, a2, c2, a3, c3, a4, c4, CA, oA1, oA2, oA3, oA4⟩, ⟨p1, d1, p2, d2, p3, d3, p4, d4, CB, oB1, oB2, oB3, oB4⟩, zX, zY, zZ, zU, r1, r2, r3⟩ := hT
        try (have he := cells_same CA CB; simp at he; obtain ⟨⟨rfl, _, rfl⟩, ⟨rfl, _, rfl⟩, ⟨rfl, _, rfl⟩, ⟨rfl, _, rfl⟩, _⟩ := he)
        rcases hq.out with ⟨rfl, hs⟩ | ⟨cm, nn, rfl, rfl, hs⟩
        · obtain ⟨rfl, rfl⟩ := r1 (fun c' n' h => by rw [hs] at h; cases h)
          obtain ⟨rfl, rfl, rfl⟩ := r2 (fun c' n' h => by rw [hs] at h; cases h)
          obtain ⟨rfl, rfl⟩ := r3 (fun c' n' h => by rw [hs] at h; cases h)
          clear hs hq
          have k0 := (CA).cell 0
          have k1 := (CA).cell 1
          have k2 := (CA).cell 2
          have k3 := (CA).cell 3
          have k4 := (CA).cell 4
          have k5 := (CA).cell 5
          have k6 := (CA).cell 6
          simp at k0 k1 k2 k3 k4 k5 k6
          have lk := (CA).lt
          have m0 := (CB).cell 0
          have m1 := (CB).cell 1
          have m2 := (CB).cell 2
          have m3 := (CB).cell 3
          have m4 := (CB).cell 4
          have m5 := (CB).cell 5
          have m6 := (CB).cell 6
          simp at m0 m1 m2 m3 m4 m5 m6
          have lm := (CB).lt
          go_wp2_with fail
          go_at_call 60
          refine (days_same _ _ _ _ _ _ _ _ _ _ _ _ _ _ _ _ _ _ _ _ _ _ _ _ _ _ _ _ _ oA1.ints.1 oB1.ints.1 zX).mono ?_
          rintro e X1 ⟨rfl, b⟩
          replace tV := tV.trans (b.mono tV.size)
          replace CA := CA.below b
          replace CB := CB.below b
          replace oA1 := oA1.kept b
          replace oA2 := oA2.kept b
          replace oA3 := oA3.kept b
          replace oA4 := oA4.kept b
          replace oB1 := oB1.kept b
          replace oB2 := oB2.kept b
          replace oB3 := oB3.kept b
          replace oB4 := oB4.kept b
          clear b
          clear k0 m0 k1 m1 k2 m2 k3 m3 k4 m4 k5 m5 k6 m6 lk lm
          have k0 := (CA).cell 0
          have k1 := (CA).cell 1
          have k2 := (CA).cell 2
          have k3 := (CA).cell 3
          have k4 := (CA).cell 4
          have k5 := (CA).cell 5
          have k6 := (CA).cell 6
          simp at k0 k1 k2 k3 k4 k5 k6
          have lk := (CA).lt
          have m0 := (CB).cell 0
          have m1 := (CB).cell 1
          have m2 := (CB).cell 2
          have m3 := (CB).cell 3
          have m4 := (CB).cell 4
          have m5 := (CB).cell 5
          have m6 := (CB).cell 6
          simp at m0 m1 m2 m3 m4 m5 m6
          have lm := (CB).lt
          go_wp2_with fail
          go_at_call 61
          refine (spans_same _ _ _ _ _ _ _ _ _ _ _ _ _ _ _ _ _ _ _ _ _ _ _ _ _ _ _ _ oA2.ints.1 oB2.ints.1 zY oA3.recs2 oB3.recs2 zZ).mono ?_
          rintro e X2 ⟨rfl, b⟩
          replace tV := tV.trans (b.mono tV.size)
          replace CA := CA.below b
          replace CB := CB.below b
          replace oA1 := oA1.kept b
          replace oA2 := oA2.kept b
          replace oA3 := oA3.kept b
          replace oA4 := oA4.kept b
          replace oB1 := oB1.kept b
          replace oB2 := oB2.kept b
          replace oB3 := oB3.kept b
          replace oB4 := oB4.kept b
          clear b
          clear k0 m0 k1 m1 k2 m2 k3 m3 k4 m4 k5 m5 k6 m6 lk lm
          have k0 := (CA).cell 0
          have k1 := (CA).cell 1
          have k2 := (CA).cell 2
          have k3 := (CA).cell 3
          have k4 := (CA).cell 4
          have k5 := (CA).cell 5
          have k6 := (CA).cell 6
          simp at k0 k1 k2 k3 k4 k5 k6
          have lk := (CA).lt
          have m0 := (CB).cell 0
          have m1 := (CB).cell 1
          have m2 := (CB).cell 2
          have m3 := (CB).cell 3
          have m4 := (CB).cell 4
          have m5 := (CB).cell 5
          have m6 := (CB).cell 6
          simp at m0 m1 m2 m3 m4 m5 m6
          have lm := (CB).lt
          go_wp2_with fail
          go_at_call 62
          refine (owed_same _ _ _ _ _ _ _ _ _ _ _ _ _ _ _ _ _ _ _ _ _ _ _ _ _ _ _ _ _ oA4.recs2P oB4.recs2P zU).mono ?_
          rintro e X3 ⟨rfl, b⟩
          replace tV := tV.trans (b.mono tV.size)
          replace CA := CA.below b
          replace CB := CB.below b
          replace oA1 := oA1.kept b
          replace oA2 := oA2.kept b
          replace oA3 := oA3.kept b
          replace oA4 := oA4.kept b
          replace oB1 := oB1.kept b
          replace oB2 := oB2.kept b
          replace oB3 := oB3.kept b
          replace oB4 := oB4.kept b
          clear b
          clear k0 m0 k1 m1 k2 m2 k3 m3 k4 m4 k5 m5 k6 m6 lk lm
          have k0 := (CA).cell 0
          have k1 := (CA).cell 1
          have k2 := (CA).cell 2
          have k3 := (CA).cell 3
          have k4 := (CA).cell 4
          have k5 := (CA).cell 5
          have k6 := (CA).cell 6
          simp at k0 k1 k2 k3 k4 k5 k6
          have lk := (CA).lt
          have m0 := (CB).cell 0
          have m1 := (CB).cell 1
          have m2 := (CB).cell 2
          have m3 := (CB).cell 3
          have m4 := (CB).cell 4
          have m5 := (CB).cell 5
          have m6 := (CB).cell 6
          simp at m0 m1 m2 m3 m4 m5 m6
          have lm := (CB).lt
          go_wp2_with fail
          go_at_call 37
          refine (awake_any _ (hv.below tV)).mono ?_
          rintro e X9 ⟨rfl, b9⟩
          go_wp2_with fail
          go_ret
          exact ⟨rfl, tV.trans (b9.mono tV.size)⟩
        have hg : (cm = .book ∨ cm = .key ∨ cm = .day ∨ cm = .lost ∨ cm = .found) ∨ (cm = .rate ∨ cm = .paid ∨ cm = .passed ∨ cm = .words) ∨ (cm = .came ∨ cm = .skipped ∨ cm = .strike) ∨ (cm = .send ∨ cm = .route ∨ cm = .leg ∨ cm = .sleep ∨ cm = .wait) := by cases cm <;> simp
        rcases hg with hg | hg | hg | hg
        · rcases hg with rfl | rfl | rfl | rfl | rfl
          all_goals
            obtain ⟨rfl, rfl, rfl⟩ := r2 (fun c' n' h => by rw [hs] at h; cases h; decide)
            obtain ⟨rfl, rfl⟩ := r3 (fun c' n' h => by rw [hs] at h; cases h; decide)
            clear hs hq r1 r2 r3
            have k0 := (CA).cell 0
            have k1 := (CA).cell 1
            have k2 := (CA).cell 2
            have k3 := (CA).cell 3
            have k4 := (CA).cell 4
            have k5 := (CA).cell 5
            have k6 := (CA).cell 6
            simp at k0 k1 k2 k3 k4 k5 k6
            have lk := (CA).lt
            have m0 := (CB).cell 0
            have m1 := (CB).cell 1
            have m2 := (CB).cell 2
            have m3 := (CB).cell 3
            have m4 := (CB).cell 4
            have m5 := (CB).cell 5
            have m6 := (CB).cell 6
            simp at m0 m1 m2 m3 m4 m5 m6
            have lm := (CB).lt
            go_wp2_with fail
            go_at_call 61
            refine (spans_same _ _ _ _ _ _ _ _ _ _ _ _ _ _ _ _ _ _ _ _ _ _ _ _ _ _ _ _ oA2.ints.1 oB2.ints.1 zY oA3.recs2 oB3.recs2 zZ).mono ?_
            rintro e X1 ⟨rfl, b⟩
            replace tV := tV.trans (b.mono tV.size)
            replace CA := CA.below b
            replace CB := CB.below b
            replace oA1 := oA1.kept b
            replace oA2 := oA2.kept b
            replace oA3 := oA3.kept b
            replace oA4 := oA4.kept b
            replace oB1 := oB1.kept b
            replace oB2 := oB2.kept b
            replace oB3 := oB3.kept b
            replace oB4 := oB4.kept b
            clear b
            clear k0 m0 k1 m1 k2 m2 k3 m3 k4 m4 k5 m5 k6 m6 lk lm
            have k0 := (CA).cell 0
            have k1 := (CA).cell 1
            have k2 := (CA).cell 2
            have k3 := (CA).cell 3
            have k4 := (CA).cell 4
            have k5 := (CA).cell 5
            have k6 := (CA).cell 6
            simp at k0 k1 k2 k3 k4 k5 k6
            have lk := (CA).lt
            have m0 := (CB).cell 0
            have m1 := (CB).cell 1
            have m2 := (CB).cell 2
            have m3 := (CB).cell 3
            have m4 := (CB).cell 4
            have m5 := (CB).cell 5
            have m6 := (CB).cell 6
            simp at m0 m1 m2 m3 m4 m5 m6
            have lm := (CB).lt
            go_wp2_with fail
            go_at_call 62
            refine (owed_same _ _ _ _ _ _ _ _ _ _ _ _ _ _ _ _ _ _ _ _ _ _ _ _ _ _ _ _ _ oA4.recs2P oB4.recs2P zU).mono ?_
            rintro e X2 ⟨rfl, b⟩
            replace tV := tV.trans (b.mono tV.size)
            replace CA := CA.below b
            replace CB := CB.below b
            replace oA1 := oA1.kept b
            replace oA2 := oA2.kept b
            replace oA3 := oA3.kept b
            replace oA4 := oA4.kept b
            replace oB1 := oB1.kept b
            replace oB2 := oB2.kept b
            replace oB3 := oB3.kept b
            replace oB4 := oB4.kept b
            clear b
            clear k0 m0 k1 m1 k2 m2 k3 m3 k4 m4 k5 m5 k6 m6 lk lm
            have k0 := (CA).cell 0
            have k1 := (CA).cell 1
            have k2 := (CA).cell 2
            have k3 := (CA).cell 3
            have k4 := (CA).cell 4
            have k5 := (CA).cell 5
            have k6 := (CA).cell 6
            simp at k0 k1 k2 k3 k4 k5 k6
            have lk := (CA).lt
            have m0 := (CB).cell 0
            have m1 := (CB).cell 1
            have m2 := (CB).cell 2
            have m3 := (CB).cell 3
            have m4 := (CB).cell 4
            have m5 := (CB).cell 5
            have m6 := (CB).cell 6
            simp at m0 m1 m2 m3 m4 m5 m6
            have lm := (CB).lt
            go_wp2_with fail
            go_at_call 37
            refine (awake_any _ (hv.below tV)).mono ?_
            rintro e X9 ⟨rfl, b9⟩
            go_wp2_with fail
            go_ret
            exact ⟨rfl, tV.trans (b9.mono tV.size)⟩
        · rcases hg with rfl | rfl | rfl | rfl
          all_goals
            obtain ⟨rfl, rfl⟩ := r1 (fun c' n' h => by rw [hs] at h; cases h; decide)
            obtain ⟨rfl, rfl, rfl⟩ := r2 (fun c' n' h => by rw [hs] at h; cases h; decide)
            clear hs hq r1 r2 r3
            have k0 := (CA).cell 0
            have k1 := (CA).cell 1
            have k2 := (CA).cell 2
            have k3 := (CA).cell 3
            have k4 := (CA).cell 4
            have k5 := (CA).cell 5
            have k6 := (CA).cell 6
            simp at k0 k1 k2 k3 k4 k5 k6
            have lk := (CA).lt
            have m0 := (CB).cell 0
            have m1 := (CB).cell 1
            have m2 := (CB).cell 2
            have m3 := (CB).cell 3
            have m4 := (CB).cell 4
            have m5 := (CB).cell 5
            have m6 := (CB).cell 6
            simp at m0 m1 m2 m3 m4 m5 m6
            have lm := (CB).lt
            go_wp2_with fail
            go_at_call 60
            refine (days_same _ _ _ _ _ _ _ _ _ _ _ _ _ _ _ _ _ _ _ _ _ _ _ _ _ _ _ _ _ oA1.ints.1 oB1.ints.1 zX).mono ?_
            rintro e X1 ⟨rfl, b⟩
            replace tV := tV.trans (b.mono tV.size)
            replace CA := CA.below b
            replace CB := CB.below b
            replace oA1 := oA1.kept b
            replace oA2 := oA2.kept b
            replace oA3 := oA3.kept b
            replace oA4 := oA4.kept b
            replace oB1 := oB1.kept b
            replace oB2 := oB2.kept b
            replace oB3 := oB3.kept b
            replace oB4 := oB4.kept b
            clear b
            clear k0 m0 k1 m1 k2 m2 k3 m3 k4 m4 k5 m5 k6 m6 lk lm
            have k0 := (CA).cell 0
            have k1 := (CA).cell 1
            have k2 := (CA).cell 2
            have k3 := (CA).cell 3
            have k4 := (CA).cell 4
            have k5 := (CA).cell 5
            have k6 := (CA).cell 6
            simp at k0 k1 k2 k3 k4 k5 k6
            have lk := (CA).lt
            have m0 := (CB).cell 0
            have m1 := (CB).cell 1
            have m2 := (CB).cell 2
            have m3 := (CB).cell 3
            have m4 := (CB).cell 4
            have m5 := (CB).cell 5
            have m6 := (CB).cell 6
            simp at m0 m1 m2 m3 m4 m5 m6
            have lm := (CB).lt
            go_wp2_with fail
            go_at_call 61
            refine (spans_same _ _ _ _ _ _ _ _ _ _ _ _ _ _ _ _ _ _ _ _ _ _ _ _ _ _ _ _ oA2.ints.1 oB2.ints.1 zY oA3.recs2 oB3.recs2 zZ).mono ?_
            rintro e X2 ⟨rfl, b⟩
            replace tV := tV.trans (b.mono tV.size)
            replace CA := CA.below b
            replace CB := CB.below b
            replace oA1 := oA1.kept b
            replace oA2 := oA2.kept b
            replace oA3 := oA3.kept b
            replace oA4 := oA4.kept b
            replace oB1 := oB1.kept b
            replace oB2 := oB2.kept b
            replace oB3 := oB3.kept b
            replace oB4 := oB4.kept b
            clear b
            clear k0 m0 k1 m1 k2 m2 k3 m3 k4 m4 k5 m5 k6 m6 lk lm
            have k0 := (CA).cell 0
            have k1 := (CA).cell 1
            have k2 := (CA).cell 2
            have k3 := (CA).cell 3
            have k4 := (CA).cell 4
            have k5 := (CA).cell 5
            have k6 := (CA).cell 6
            simp at k0 k1 k2 k3 k4 k5 k6
            have lk := (CA).lt
            have m0 := (CB).cell 0
            have m1 := (CB).cell 1
            have m2 := (CB).cell 2
            have m3 := (CB).cell 3
            have m4 := (CB).cell 4
            have m5 := (CB).cell 5
            have m6 := (CB).cell 6
            simp at m0 m1 m2 m3 m4 m5 m6
            have lm := (CB).lt
            go_wp2_with fail
            go_at_call 37
            refine (awake_any _ (hv.below tV)).mono ?_
            rintro e X9 ⟨rfl, b9⟩
            go_wp2_with fail
            go_ret
            exact ⟨rfl, tV.trans (b9.mono tV.size)⟩
        · rcases hg with rfl | rfl | rfl
          all_goals
            obtain ⟨rfl, rfl⟩ := r1 (fun c' n' h => by rw [hs] at h; cases h; decide)
            obtain ⟨rfl, rfl, rfl⟩ := r2 (fun c' n' h => by rw [hs] at h; cases h; decide)
            obtain ⟨rfl, rfl⟩ := r3 (fun c' n' h => by rw [hs] at h; cases h; decide)
            clear hs hq r1 r2 r3
            have k0 := (CA).cell 0
            have k1 := (CA).cell 1
            have k2 := (CA).cell 2
            have k3 := (CA).cell 3
            have k4 := (CA).cell 4
            have k5 := (CA).cell 5
            have k6 := (CA).cell 6
            simp at k0 k1 k2 k3 k4 k5 k6
            have lk := (CA).lt
            have m0 := (CB).cell 0
            have m1 := (CB).cell 1
            have m2 := (CB).cell 2
            have m3 := (CB).cell 3
            have m4 := (CB).cell 4
            have m5 := (CB).cell 5
            have m6 := (CB).cell 6
            simp at m0 m1 m2 m3 m4 m5 m6
            have lm := (CB).lt
            go_wp2_with fail
            go_at_call 60
            refine (days_same _ _ _ _ _ _ _ _ _ _ _ _ _ _ _ _ _ _ _ _ _ _ _ _ _ _ _ _ _ oA1.ints.1 oB1.ints.1 zX).mono ?_
            rintro e X1 ⟨rfl, b⟩
            replace tV := tV.trans (b.mono tV.size)
            replace CA := CA.below b
            replace CB := CB.below b
            replace oA1 := oA1.kept b
            replace oA2 := oA2.kept b
            replace oA3 := oA3.kept b
            replace oA4 := oA4.kept b
            replace oB1 := oB1.kept b
            replace oB2 := oB2.kept b
            replace oB3 := oB3.kept b
            replace oB4 := oB4.kept b
            clear b
            clear k0 m0 k1 m1 k2 m2 k3 m3 k4 m4 k5 m5 k6 m6 lk lm
            have k0 := (CA).cell 0
            have k1 := (CA).cell 1
            have k2 := (CA).cell 2
            have k3 := (CA).cell 3
            have k4 := (CA).cell 4
            have k5 := (CA).cell 5
            have k6 := (CA).cell 6
            simp at k0 k1 k2 k3 k4 k5 k6
            have lk := (CA).lt
            have m0 := (CB).cell 0
            have m1 := (CB).cell 1
            have m2 := (CB).cell 2
            have m3 := (CB).cell 3
            have m4 := (CB).cell 4
            have m5 := (CB).cell 5
            have m6 := (CB).cell 6
            simp at m0 m1 m2 m3 m4 m5 m6
            have lm := (CB).lt
            go_wp2_with fail
            go_at_call 61
            refine (spans_same _ _ _ _ _ _ _ _ _ _ _ _ _ _ _ _ _ _ _ _ _ _ _ _ _ _ _ _ oA2.ints.1 oB2.ints.1 zY oA3.recs2 oB3.recs2 zZ).mono ?_
            rintro e X2 ⟨rfl, b⟩
            replace tV := tV.trans (b.mono tV.size)
            replace CA := CA.below b
            replace CB := CB.below b
            replace oA1 := oA1.kept b
            replace oA2 := oA2.kept b
            replace oA3 := oA3.kept b
            replace oA4 := oA4.kept b
            replace oB1 := oB1.kept b
            replace oB2 := oB2.kept b
            replace oB3 := oB3.kept b
            replace oB4 := oB4.kept b
            clear b
            clear k0 m0 k1 m1 k2 m2 k3 m3 k4 m4 k5 m5 k6 m6 lk lm
            have k0 := (CA).cell 0
            have k1 := (CA).cell 1
            have k2 := (CA).cell 2
            have k3 := (CA).cell 3
            have k4 := (CA).cell 4
            have k5 := (CA).cell 5
            have k6 := (CA).cell 6
            simp at k0 k1 k2 k3 k4 k5 k6
            have lk := (CA).lt
            have m0 := (CB).cell 0
            have m1 := (CB).cell 1
            have m2 := (CB).cell 2
            have m3 := (CB).cell 3
            have m4 := (CB).cell 4
            have m5 := (CB).cell 5
            have m6 := (CB).cell 6
            simp at m0 m1 m2 m3 m4 m5 m6
            have lm := (CB).lt
            go_wp2_with fail
            go_at_call 62
            refine (owed_same _ _ _ _ _ _ _ _ _ _ _ _ _ _ _ _ _ _ _ _ _ _ _ _ _ _ _ _ _ oA4.recs2P oB4.recs2P zU).mono ?_
            rintro e X3 ⟨rfl, b⟩
            replace tV := tV.trans (b.mono tV.size)
            replace CA := CA.below b
            replace CB := CB.below b
            replace oA1 := oA1.kept b
            replace oA2 := oA2.kept b
            replace oA3 := oA3.kept b
            replace oA4 := oA4.kept b
            replace oB1 := oB1.kept b
            replace oB2 := oB2.kept b
            replace oB3 := oB3.kept b
            replace oB4 := oB4.kept b
            clear b
            clear k0 m0 k1 m1 k2 m2 k3 m3 k4 m4 k5 m5 k6 m6 lk lm
            have k0 := (CA).cell 0
            have k1 := (CA).cell 1
            have k2 := (CA).cell 2
            have k3 := (CA).cell 3
            have k4 := (CA).cell 4
            have k5 := (CA).cell 5
            have k6 := (CA).cell 6
            simp at k0 k1 k2 k3 k4 k5 k6
            have lk := (CA).lt
            have m0 := (CB).cell 0
            have m1 := (CB).cell 1
            have m2 := (CB).cell 2
            have m3 := (CB).cell 3
            have m4 := (CB).cell 4
            have m5 := (CB).cell 5
            have m6 := (CB).cell 6
            simp at m0 m1 m2 m3 m4 m5 m6
            have lm := (CB).lt
            go_wp2_with fail
            go_at_call 37
            refine (awake_any _ (hv.below tV)).mono ?_
            rintro e X9 ⟨rfl, b9⟩
            go_wp2_with fail
            go_ret
            exact ⟨rfl, tV.trans (b9.mono tV.size)⟩
        · rcases hg with rfl | rfl | rfl | rfl | rfl
          all_goals
            obtain ⟨rfl, rfl⟩ := r1 (fun c' n' h => by rw [hs] at h; cases h; decide)
            obtain ⟨rfl, rfl⟩ := r3 (fun c' n' h => by rw [hs] at h; cases h; decide)
            clear hs hq r1 r2 r3
            have k0 := (CA).cell 0
            have k1 := (CA).cell 1
            have k2 := (CA).cell 2
            have k3 := (CA).cell 3
            have k4 := (CA).cell 4
            have k5 := (CA).cell 5
            have k6 := (CA).cell 6
            simp at k0 k1 k2 k3 k4 k5 k6
            have lk := (CA).lt
            have m0 := (CB).cell 0
            have m1 := (CB).cell 1
            have m2 := (CB).cell 2
            have m3 := (CB).cell 3
            have m4 := (CB).cell 4
            have m5 := (CB).cell 5
            have m6 := (CB).cell 6
            simp at m0 m1 m2 m3 m4 m5 m6
            have lm := (CB).lt
            go_wp2_with fail
            go_at_call 60
            refine (days_same _ _ _ _ _ _ _ _ _ _ _ _ _ _ _ _ _ _ _ _ _ _ _ _ _ _ _ _ _ oA1.ints.1 oB1.ints.1 zX).mono ?_
            rintro e X1 ⟨rfl, b⟩
            replace tV := tV.trans (b.mono tV.size)
            replace CA := CA.below b
            replace CB := CB.below b
            replace oA1 := oA1.kept b
            replace oA2 := oA2.kept b
            replace oA3 := oA3.kept b
            replace oA4 := oA4.kept b
            replace oB1 := oB1.kept b
            replace oB2 := oB2.kept b
            replace oB3 := oB3.kept b
            replace oB4 := oB4.kept b
            clear b
            clear k0 m0 k1 m1 k2 m2 k3 m3 k4 m4 k5 m5 k6 m6 lk lm
            have k0 := (CA).cell 0
            have k1 := (CA).cell 1
            have k2 := (CA).cell 2
            have k3 := (CA).cell 3
            have k4 := (CA).cell 4
            have k5 := (CA).cell 5
            have k6 := (CA).cell 6
            simp at k0 k1 k2 k3 k4 k5 k6
            have lk := (CA).lt
            have m0 := (CB).cell 0
            have m1 := (CB).cell 1
            have m2 := (CB).cell 2
            have m3 := (CB).cell 3
            have m4 := (CB).cell 4
            have m5 := (CB).cell 5
            have m6 := (CB).cell 6
            simp at m0 m1 m2 m3 m4 m5 m6
            have lm := (CB).lt
            go_wp2_with fail
            go_at_call 62
            refine (owed_same _ _ _ _ _ _ _ _ _ _ _ _ _ _ _ _ _ _ _ _ _ _ _ _ _ _ _ _ _ oA4.recs2P oB4.recs2P zU).mono ?_
            rintro e X2 ⟨rfl, b⟩
            replace tV := tV.trans (b.mono tV.size)
            replace CA := CA.below b
            replace CB := CB.below b
            replace oA1 := oA1.kept b
            replace oA2 := oA2.kept b
            replace oA3 := oA3.kept b
            replace oA4 := oA4.kept b
            replace oB1 := oB1.kept b
            replace oB2 := oB2.kept b
            replace oB3 := oB3.kept b
            replace oB4 := oB4.kept b
            clear b
            clear k0 m0 k1 m1 k2 m2 k3 m3 k4 m4 k5 m5 k6 m6 lk lm
            have k0 := (CA).cell 0
            have k1 := (CA).cell 1
            have k2 := (CA).cell 2
            have k3 := (CA).cell 3
            have k4 := (CA).cell 4
            have k5 := (CA).cell 5
            have k6 := (CA).cell 6
            simp at k0 k1 k2 k3 k4 k5 k6
            have lk := (CA).lt
            have m0 := (CB).cell 0
            have m1 := (CB).cell 1
            have m2 := (CB).cell 2
            have m3 := (CB).cell 3
            have m4 := (CB).cell 4
            have m5 := (CB).cell 5
            have m6 := (CB).cell 6
            simp at m0 m1 m2 m3 m4 m5 m6
            have lm := (CB).lt
            go_wp2_with fail
            go_at_call 37
            refine (awake_any _ (hv.below tV)).mono ?_
            rintro e X9 ⟨rfl, b9⟩
            go_wp2_with fail
            go_ret
            exact ⟨rfl, tV.trans (b9.mono tV.size)⟩
end Go.Proofs.YticjeianiahppaaGreatDoor

