/- book, laws: BookReplays -/
import Derived.Test.YticjeianiahppaaGreatDoorVc
namespace Go.Proofs.YticjeianiahppaaGreatDoor
set_option linter.unusedVariables false
set_option linter.unusedSimpArgs false
set_option linter.unnecessarySimpa false
open Go.RowKit Go.Flow
theorem StrsAt.take {w : World} {a : Option Addr} {l : List ByteArray} (h : StrsAt w a l) (k : Nat) : StrsAt w a (l.take k) := fun j hj => by
  have hj' : j < l.length := by rw [List.length_take] at hj; omega
  obtain ⟨b, off, ha, hb, hc⟩ := h j hj'
  exact ⟨b, off, ha, hb, by rw [hc, List.getElem_take]⟩
theorem fault_sub {l m : List ByteArray} (h : faultL l = 0) (hn : m.length ≤ l.length) (hs : ∀ s ∈ m, s ∈ l) : faultL m = 0 := by
  obtain ⟨h50, h80⟩ := fault_ok h
  unfold faultL
  rw [if_pos]
  simp only [Bool.and_eq_true, decide_eq_true_eq, List.all_eq_true]
  exact ⟨by omega, fun s hm => by have := h80 s (hs s hm); unfold shortB; simpa using this⟩
theorem fault_take {l : List ByteArray} (h : faultL l = 0) (k : Nat) : faultL (l.take k) = 0 := fault_sub h (by rw [List.length_take]; omega) fun _ hs => List.mem_of_mem_take hs
theorem fault_kept {l : List ByteArray} (h : faultL l = 0) : faultL (keptL BSt.begun l) = 0 := fault_sub h (kept_len _ l) (kept_mem _ l)
theorem after_kept (l : List ByteArray) : afterL (keptL BSt.begun l) = afterL l := kept_state _ l
/-- A line is accepted, or it changes nothing. -/
theorem kept_or (l : List ByteArray) (k : Nat) (hk : k < l.length) : (keptL BSt.begun (l.take k)).length < (keptL BSt.begun (l.take (k + 1))).length ∨ ((keptL BSt.begun (l.take (k + 1))).length ≤ (keptL BSt.begun (l.take k)).length ∧ afterL (l.take (k + 1)) = afterL (l.take k)) := by
  have e : l.take (k + 1) = l.take k ++ [l[k]] := by rw [List.take_succ_eq_append_getElem hk]
  rw [e, kept_snoc]
  by_cases h : lineE (playS BSt.begun (l.take k)) l[k] = 0
  · left; rw [if_pos h]; simp
  · right
    rw [if_neg h]
    exact ⟨by simp, by show playS _ _ = playS _ _; rw [playS_snoc, lineS_refused h]⟩
/-- What played returns, of named values. -/
def PlayedAs (B : Nat) (S : BSt) (K : List ByteArray) (e : Ending) (w' : World) : Prop :=
  ∃ A a c, e = .returned (.tuple #[.agg (stCells S A), .slice a K.length c, .bool true]) ∧ Lists w' S A ∧ OwnL 9 1 B w' a c K.length (K.map Value.string)
theorem played_as {S : BSt} {K : List ByteArray} (a : Option Addr) (c n : Nat) (l : List ByteArray) (w : World) (hS : afterL l = S) (hK : keptL BSt.begun l = K) (en : l.length = n) (hl : StrsAt w a l) (hn : a = none → c = 0) (h0 : faultL l = 0) (hv : Vars w) :
    Calls Tryz.prog 56 #[.slice a n c] w fun e w' => PlayedAs w.heap.size S K e w' ∧ Below w.heap.size w w' := by
  subst en hS hK
  exact played_any a c l w hl hn h0 hv
set_option maxRecDepth 100000 in
set_option maxHeartbeats 4000000 in
theorem bookReplays_walk (a : Option Addr) (l : List ByteArray) (c : Nat) (at_ : Int) (w : World) (hl : StrsAt w a l) (hn : a = none → c = 0) (hm : l.length ≤ 9223372036854775807) (hc : l.length ≤ c) (hat : 0 ≤ at_ ∧ at_ ≤ 255) (hv : Vars w) :
    Calls Tryz.prog 10 #[.slice a l.length c, .int .u8 at_] w fun e w' => e = .returned (.bool true) ∧ Below w.heap.size w w' := by
  have rd : Calls _ _ #[.slice a l.length c, .int .i64 50] w _ := ready_any a c 50 l w hl hm
  cases hr : readyB l 50
  · rw [hr] at rd
    clear hr
    go_enter Tryz.func10, Tryz.ntmps10
    go_wp2_with fail
    go_at_call 55
    refine rd.mono ?_
    rintro e W1 ⟨rfl, b1⟩
    go_wp2_with fail
    go_at_call 37
    refine (awake_any W1 (hv.below b1)).mono ?_
    rintro e W2 ⟨rfl, b2⟩
    go_wp2_with fail
    go_ret
    exact ⟨rfl, b1.trans (b2.mono b1.size)⟩
  · obtain ⟨h0, _, h50⟩ := ready_ok hr
    rw [hr] at rd
    clear hr
    have F := after_few l
    have pl := fun W (b : Below w.heap.size w W) => played_as a c l.length l W rfl rfl rfl (hl.below b) hn h0 (hv.below b)
    have pk := fun W (b : Below w.heap.size w W) a' c' h h' => played_as (S := afterL l) (K := keptL BSt.begun l) a' c' (keptL BSt.begun l).length (keptL BSt.begun l) W (after_kept l) (kept_kept _ l) rfl h h' (fault_kept h0) (hv.below b)
    have q1 := fun W (b : Below w.heap.size w W) k (hk : k ≤ l.length) => played_as a c k (l.take k) W rfl rfl (by rw [List.length_take]; omega) ((hl.take k).below b) hn (fault_take h0 k) (hv.below b)
    have ko := kept_or l
    clear h0
    obtain ⟨f1, hf1⟩ : ∃ f : Nat → BSt, f = fun k => afterL (l.take k) := ⟨_, rfl⟩
    obtain ⟨g1, hg1⟩ : ∃ f : Nat → List ByteArray, f = fun k => keptL BSt.begun (l.take k) := ⟨_, rfl⟩
    have Ff : ∀ k, Few (f1 k) := fun k => by rw [hf1]; exact after_few _
    replace q1 : ∀ W (b : Below w.heap.size w W) k (hk : k ≤ l.length), Calls Tryz.prog 56 #[.slice a k c] W fun e w' => PlayedAs W.heap.size (f1 k) (g1 k) e w' ∧ Below W.heap.size W w' := by rw [hf1, hg1]; exact q1
    replace ko : ∀ k, k < l.length → (g1 k).length < (g1 (k + 1)).length ∨ ((g1 (k + 1)).length ≤ (g1 k).length ∧ f1 (k + 1) = f1 k) := by rw [hf1, hg1]; exact ko
    clear hf1 hg1
    generalize afterL l = S at F pl pk
    generalize keptL BSt.begun l = K at pl pk
    unfold PlayedAs at pl pk q1
    go_enter Tryz.func10, Tryz.ntmps10
    go_wp2_with fail
    go_at_call 55
    refine rd.mono ?_
    rintro e W1 ⟨rfl, b1⟩
    go_wp2_with fail
    go_at_call 56
    refine (pl W1 b1).mono ?_
    rintro e W2 ⟨⟨A, a2, c2, rfl, hA, o2⟩, b2⟩
    have t2 := b1.trans (b2.mono b1.size)
    clear pl b1 b2 rd
    go_upto_region 4 with fail
    obtain ⟨V1, hV⟩ : ∃ x : World, x = W2.alloc (.cells (stCells S A) 57) := ⟨_, rfl⟩
    have bv : Below W2.heap.size W2 V1 := by rw [hV]; exact Joins.below_alloc1 _ _
    have C1 : Cells V1 W2.heap.size (stCells S A) 57 := by rw [hV]; exact Cells.new _ _ _
    change Code.wp _ _ _ _ (W2.alloc (.cells (stCells S A) 57))
    rw [← hV]
    clear hV
    have v1 := t2.trans (bv.mono t2.size)
    replace hA := hA.below bv
    replace o2 := o2.kept bv
    generalize W2.heap.size = n1 at C1 ⊢
    have l1 := C1.lt
    clear bv t2
    go_wp2_with fail
    go_at_call 56
    refine (pk V1 v1 a2 c2 o2.strs (fun h => by subst h; exact o2.isnil.2)).mono ?_
    rintro e W3 ⟨⟨B, a3, c3, rfl, hB, _⟩, b3⟩
    have t3 := v1.trans (b3.mono v1.size)
    replace hA := hA.below b3
    replace C1 := C1.below b3
    clear pk b3 o2 v1 l1
    go_upto_region 5 with fail
    obtain ⟨V2, hV⟩ : ∃ x : World, x = W3.alloc (.cells (stCells S B) 57) := ⟨_, rfl⟩
    have bv : Below W3.heap.size W3 V2 := by rw [hV]; exact Joins.below_alloc1 _ _
    have C2 : Cells V2 W3.heap.size (stCells S B) 57 := by rw [hV]; exact Cells.new _ _ _
    change Code.wp _ _ _ _ (W3.alloc (.cells (stCells S B) 57))
    rw [← hV]
    clear hV
    have v2 := t3.trans (bv.mono t3.size)
    replace hA := hA.below bv
    replace hB := hB.below bv
    replace C1 := C1.below bv
    generalize W3.heap.size = n2 at C2 ⊢
    clear bv t3
    have k0 := C1.cell 0
    have k1 := C1.cell 1
    have k2 := C1.cell 2
    have k3 := C1.cell 3
    have k4 := C1.cell 4
    have k5 := C1.cell 5
    have k6 := C1.cell 6
    have k7 := C1.cell 7
    have k8 := C1.cell 8
    have k9 := C1.cell 9
    have k10 := C1.cell 10
    have k11 := C1.cell 11
    have k12 := C1.cell 12
    simp at k0 k1 k2 k3 k4 k5 k6 k7 k8 k9 k10 k11 k12
    have lk := C1.lt
    have m0 := C2.cell 0
    have m1 := C2.cell 1
    have m2 := C2.cell 2
    have m3 := C2.cell 3
    have m4 := C2.cell 4
    have m5 := C2.cell 5
    have m6 := C2.cell 6
    have m7 := C2.cell 7
    have m8 := C2.cell 8
    have m9 := C2.cell 9
    have m10 := C2.cell 10
    have m11 := C2.cell 11
    have m12 := C2.cell 12
    simp at m0 m1 m2 m3 m4 m5 m6 m7 m8 m9 m10 m11 m12
    have lm := C2.lt
    go_wp2_with fail
    go_at_call 57
    refine (same_same S A B V2 hA hB F).mono ?_
    rintro e W4 ⟨rfl, b4⟩
    have t4 := v2.trans (b4.mono v2.size)
    clear hA hB F b4 v2 C1 C2 k0 m0 k1 m1 k2 m2 k3 m3 k4 m4 k5 m5 k6 m6 k7 m7 k8 m8 k9 m9 k10 m10 k11 m11 k12 m12 lk lm
    by_cases hz : l.length = 0
    · have hzI : (l.length : Int) = 0 := by omega
      go_wp2_with fail
      go_at_call 37
      refine (awake_any W4 (hv.below t4)).mono ?_
      rintro e W5 ⟨rfl, b5⟩
      go_wp2_with fail
      go_ret
      exact ⟨rfl, t4.trans (b5.mono t4.size)⟩
    · have hzI : ¬ (l.length : Int) = 0 := by omega
      obtain ⟨k, hk, hkm⟩ : ∃ k : Nat, k < l.length ∧ at_.tmod (l.length : Int) = (k : Int) := by
        refine ⟨at_.toNat % l.length, Nat.mod_lt _ (by omega), ?_⟩
        have : at_ = ((at_.toNat : Nat) : Int) := by omega
        rw [this]; simp [Int.tmod]
      have kw : IntKind.i64.wrap (k : Int) = (k : Int) := IntWalk.i64_in _ (by omega)
      have kw1 : IntKind.i64.wrap ((k : Int) + 1) = (k : Int) + 1 := IntWalk.i64_in _ (by omega)
      have aw : IntKind.i64.wrap at_ = at_ := IntWalk.i64_in _ (by omega)
      have hk0 : (0 : Int) ≤ (k : Int) := by omega
      have hk1 : (0 : Int) ≤ (k : Int) + 1 := by omega
      have hkc : (k : Int) ≤ (c : Int) := by omega
      have hkc1 : (k : Int) + 1 ≤ (c : Int) := by omega
      have p1 := q1 W4 t4 k (by omega)
      have p2 := fun W b => q1 W b (k + 1) (by omega)
      have ko := ko k hk
      have F1 := Ff k
      have F2 := Ff (k + 1)
      generalize f1 (k + 1) = S2 at p2 F2 ko
      generalize g1 (k + 1) = K2 at p2 ko
      generalize f1 k = S1 at p1 F1 ko
      generalize g1 k = K1 at p1 ko
      clear q1 Ff
      go_wp2_with fail
      go_at_call 56
      refine p1.mono ?_
      rintro e W5 ⟨⟨A1, a5, c5, rfl, hA, _⟩, b5⟩
      have t5 := t4.trans (b5.mono t4.size)
      clear p1 b5 t4
      go_upto_region 11 with fail
      obtain ⟨V3, hV⟩ : ∃ x : World, x = W5.alloc (.cells (stCells S1 A1) 57) := ⟨_, rfl⟩
      have bv : Below W5.heap.size W5 V3 := by rw [hV]; exact Joins.below_alloc1 _ _
      have C3 : Cells V3 W5.heap.size (stCells S1 A1) 57 := by rw [hV]; exact Cells.new _ _ _
      change Code.wp _ _ _ _ (W5.alloc (.cells (stCells S1 A1) 57))
      rw [← hV]
      clear hV
      have v3 := t5.trans (bv.mono t5.size)
      replace hA := hA.below bv
      generalize W5.heap.size = n3 at C3 ⊢
      clear bv t5
      have l3 := C3.lt
      go_wp2_with fail
      go_at_call 56
      refine (p2 V3 v3).mono ?_
      rintro e W6 ⟨⟨A2, a6, c6, rfl, hB, _⟩, b6⟩
      have t6 := v3.trans (b6.mono v3.size)
      replace hA := hA.below b6
      replace C3 := C3.below b6
      clear p2 b6 v3 l3
      go_upto_region 12 with fail
      obtain ⟨V4, hV⟩ : ∃ x : World, x = W6.alloc (.cells (stCells S2 A2) 57) := ⟨_, rfl⟩
      have bv : Below W6.heap.size W6 V4 := by rw [hV]; exact Joins.below_alloc1 _ _
      have C4 : Cells V4 W6.heap.size (stCells S2 A2) 57 := by rw [hV]; exact Cells.new _ _ _
      change Code.wp _ _ _ _ (W6.alloc (.cells (stCells S2 A2) 57))
      rw [← hV]
      clear hV
      have v4 := t6.trans (bv.mono t6.size)
      replace hA := hA.below bv
      replace hB := hB.below bv
      replace C3 := C3.below bv
      generalize W6.heap.size = n4 at C4 ⊢
      clear bv t6
      rcases ko with ko | ⟨ko, rfl⟩
      · have koI : (K1.length : Int) < (K2.length : Int) := by omega
        clear C3 C4 hA hB
        go_wp2_with fail
        go_at_call 37
        refine (awake_any V4 (hv.below v4)).mono ?_
        rintro e W7 ⟨rfl, b7⟩
        go_wp2_with fail
        go_ret
        exact ⟨rfl, v4.trans (b7.mono v4.size)⟩
      · have koI : ¬ ((K1.length : Int) < (K2.length : Int)) := by omega
        have k0 := C3.cell 0
        have k1 := C3.cell 1
        have k2 := C3.cell 2
        have k3 := C3.cell 3
        have k4 := C3.cell 4
        have k5 := C3.cell 5
        have k6 := C3.cell 6
        have k7 := C3.cell 7
        have k8 := C3.cell 8
        have k9 := C3.cell 9
        have k10 := C3.cell 10
        have k11 := C3.cell 11
        have k12 := C3.cell 12
        simp at k0 k1 k2 k3 k4 k5 k6 k7 k8 k9 k10 k11 k12
        have lk := C3.lt
        have m0 := C4.cell 0
        have m1 := C4.cell 1
        have m2 := C4.cell 2
        have m3 := C4.cell 3
        have m4 := C4.cell 4
        have m5 := C4.cell 5
        have m6 := C4.cell 6
        have m7 := C4.cell 7
        have m8 := C4.cell 8
        have m9 := C4.cell 9
        have m10 := C4.cell 10
        have m11 := C4.cell 11
        have m12 := C4.cell 12
        simp at m0 m1 m2 m3 m4 m5 m6 m7 m8 m9 m10 m11 m12
        have lm := C4.lt
        go_wp2_with fail
        go_at_call 57
        refine (same_same S2 A1 A2 V4 hA hB F2).mono ?_
        rintro e W7 ⟨rfl, b7⟩
        have t7 := v4.trans (b7.mono v4.size)
        clear C3 C4 hA hB b7 v4 k0 m0 k1 m1 k2 m2 k3 m3 k4 m4 k5 m5 k6 m6 k7 m7 k8 m8 k9 m9 k10 m10 k11 m11 k12 m12 lk lm
        go_wp2_with fail
        go_at_call 37
        refine (awake_any W7 (hv.below t7)).mono ?_
        rintro e W8 ⟨rfl, b8⟩
        go_wp2_with fail
        go_ret
        exact ⟨rfl, t7.trans (b8.mono t7.size)⟩
end Go.Proofs.YticjeianiahppaaGreatDoor
