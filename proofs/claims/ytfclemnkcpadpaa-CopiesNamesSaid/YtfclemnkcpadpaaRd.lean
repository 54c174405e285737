/- copies: same, Finish, Thin, short -/
import Derived.Test.YtfclemnkcpadpaaRc
namespace Go.Proofs.Ytfclemnkcpadpaa
set_option linter.unusedVariables false
set_option linter.unusedSimpArgs false
set_option linter.unnecessarySimpa false
open Go.RowKit Go.Flow

theorem all_take_succ {α : Type} {p : α → Bool} {l : List α} {k : Nat} (h : k < l.length) (ht : (l.take k).all p = true) (hp : p l[k] = true) : (l.take (k + 1)).all p = true := by
  rw [List.take_succ_eq_append_getElem h, List.all_append, ht]; simp [hp]
theorem all_of_take {α : Type} {p : α → Bool} {l : List α} {k : Nat} (h : l.length ≤ k) (ht : (l.take k).all p = true) : l.all p = true := by
  rwa [List.take_of_length_le h] at ht
theorem all_false_at {α : Type} {p : α → Bool} {l : List α} {k : Nat} (h : k < l.length) (hp : p l[k] = false) : l.all p = false := by
  rw [List.all_eq_false]; exact ⟨l[k], List.getElem_mem h, by simp [hp]⟩

def sameE (a b : List Ent) : Bool := decide (a = b)
theorem sameE_len {a b : List Ent} (h : ¬ a.length = b.length) : sameE a b = false := by
  unfold sameE; exact decide_eq_false (fun e => h (by rw [e]))
theorem sameE_at {a b : List Ent} (k : Nat) (ha : k < a.length) (hb : k < b.length) (h : a[k] ≠ b[k]) : sameE a b = false := by
  unfold sameE; exact decide_eq_false (fun e => h (by subst e; rfl))
theorem sameE_all {a b : List Ent} (hl : a.length = b.length) (h : a.take a.length = b.take a.length) : sameE a b = true := by
  unfold sameE; rw [List.take_length, hl, List.take_length] at h; exact decide_eq_true h

set_option maxHeartbeats 2000000 in
theorem same_any (a : Option Addr) (xs : List Ent) (c : Nat) (b : Option Addr) (ys : List Ent) (d : Nat) (w : World) (hx : EntsAt w a xs) (hy : EntsAt w b ys) (lx : xs.length ≤ 1000000) (ly : ys.length ≤ 1000000) :
    Calls Try.prog 26 #[.slice a xs.length c, .slice b ys.length d] w fun e w' => e = .returned (.bool (sameE xs ys)) ∧ Below w.heap.size w w' := by
  by_cases hl : xs.length = ys.length
  · have tl : ((xs.length : Int) != (ys.length : Int)) = false := by simp [hl]
    have Hl := Lib.hid hl
    clear hl
    go_enter Try.func26, Try.ntmps26
    go_wp2
    go_loopw [5] (fun i wr => ∃ k : Nat, k ≤ xs.length ∧ i = .int .i64 k ∧ xs.take k = ys.take k ∧ Below w.heap.size w wr) (fun i _ => xs.length - (intOf i).toNat)
    case atStart => exact ⟨0, Nat.zero_le _, rfl, rfl, Below.refl _ _⟩
    case round =>
      obtain ⟨k, hk, rfl, hpre, hwr⟩ := hrel
      have Hp := Lib.hid hpre
      clear hpre
      by_cases hlt : k < xs.length
      · have hlty : k < ys.length := by rw [← Hl.out]; exact hlt
        obtain ⟨b1, off1, rfl, hbl1, p0, p1, p2⟩ := (hx.below hwr) k hlt
        obtain ⟨b2, off2, rfl, hbl2, q0, q1, q2⟩ := (hy.below hwr) k hlty
        obtain ⟨⟨x0, x1, x2⟩, hxe⟩ : ∃ x, xs[k] = x := ⟨_, rfl⟩
        obtain ⟨⟨y0, y1, y2⟩, hye⟩ : ∃ y, ys[k] = y := ⟨_, rfl⟩
        rw [hxe] at p0 p1 p2
        rw [hye] at q0 q1 q2
        simp only at p0 p1 p2 q0 q1 q2
        have Hx := Lib.hid hxe
        have Hy := Lib.hid hye
        have l1 : (k : Int) < (xs.length : Int) := by omega
        have l2 : (k : Int) < (ys.length : Int) := by omega
        clear hxe hye
        by_cases e0 : x0 = y0
        · have t0 : (x0 != y0) = false := by simp [e0]
          by_cases e1 : x1 = y1
          · have t1 : (x1 != y1) = false := by simp [e1]
            by_cases e2 : x2 = y2
            · subst e2
              have Hn : Hid (xs.take (k + 1) = ys.take (k + 1)) := Lib.hid (by rw [List.take_succ_eq_append_getElem hlt, List.take_succ_eq_append_getElem hlty, Hp.out, Hx.out, Hy.out, e0, e1])
              clear e0 e1
              cases x2
              all_goals
                go_wp2
                (refine wp_region_ext 37 (by kernel_rfl) (by kernel_rfl) ?_; simp only [List.take_succ_cons, List.take_zero, List.drop_succ_cons, List.drop_zero]; (repeat (go_big_quiet_step ((fail)))); refine wpQuiet_nil ?_; rintro _ ⟨ex, rfl⟩; have hex := ex.below; have hexz := ex.size; (try simp at hexz); (try (have hy0 : w.heap.size < ex.to.heap.size := by omega)); (try (have hy1 : w.heap.size + 1 < ex.to.heap.size := by omega)); (try (have hy2 : w.heap.size + 2 < ex.to.heap.size := by omega)))
                go_wp2
                go_roundw
                case rel => exact ⟨k + 1, by omega, by go_num, Hn.out, hwr.trans (ex.below.mono hwr.size)⟩
                case measure => simp [intOf]; omega
            · have Hn := Lib.hid (sameE_at k hlt hlty (by rw [Hx.out, Hy.out]; simp [e2]))
              have He2 := Lib.hid e2
              clear e0 e1 e2
              cases x2 <;> cases y2
              · exact absurd rfl He2.out
              · go_wp2
                (refine wp_region_ext 37 (by kernel_rfl) (by kernel_rfl) ?_; simp only [List.take_succ_cons, List.take_zero, List.drop_succ_cons, List.drop_zero]; (repeat (go_big_quiet_step ((fail)))); refine wpQuiet_nil ?_; rintro _ ⟨ex, rfl⟩; have hex := ex.below; have hexz := ex.size; (try simp at hexz); (try (have hy0 : w.heap.size < ex.to.heap.size := by omega)); (try (have hy1 : w.heap.size + 1 < ex.to.heap.size := by omega)); (try (have hy2 : w.heap.size + 2 < ex.to.heap.size := by omega)))
                go_wp2
                go_ret
                rw [Hn.out]
                exact ⟨rfl, hwr.trans (ex.below.mono hwr.size)⟩
              · go_wp2
                (refine wp_region_ext 37 (by kernel_rfl) (by kernel_rfl) ?_; simp only [List.take_succ_cons, List.take_zero, List.drop_succ_cons, List.drop_zero]; (repeat (go_big_quiet_step ((fail)))); refine wpQuiet_nil ?_; rintro _ ⟨ex, rfl⟩; have hex := ex.below; have hexz := ex.size; (try simp at hexz); (try (have hy0 : w.heap.size < ex.to.heap.size := by omega)); (try (have hy1 : w.heap.size + 1 < ex.to.heap.size := by omega)); (try (have hy2 : w.heap.size + 2 < ex.to.heap.size := by omega)))
                go_wp2
                go_ret
                rw [Hn.out]
                exact ⟨rfl, hwr.trans (ex.below.mono hwr.size)⟩
              · exact absurd rfl He2.out
          · have t1 : (x1 != y1) = true := by simp [e1]
            have Hn := Lib.hid (sameE_at k hlt hlty (by rw [Hx.out, Hy.out]; simp [e1]))
            clear e0 e1
            go_wp2
            (refine wp_region_ext 37 (by kernel_rfl) (by kernel_rfl) ?_; simp only [List.take_succ_cons, List.take_zero, List.drop_succ_cons, List.drop_zero]; (repeat (go_big_quiet_step ((fail)))); refine wpQuiet_nil ?_; rintro _ ⟨ex, rfl⟩; have hex := ex.below; have hexz := ex.size; (try simp at hexz); (try (have hy0 : w.heap.size < ex.to.heap.size := by omega)); (try (have hy1 : w.heap.size + 1 < ex.to.heap.size := by omega)); (try (have hy2 : w.heap.size + 2 < ex.to.heap.size := by omega)))
            go_wp2
            go_ret
            rw [Hn.out]
            exact ⟨rfl, hwr.trans (ex.below.mono hwr.size)⟩
        · have t0 : (x0 != y0) = true := by simp [e0]
          have Hn := Lib.hid (sameE_at k hlt hlty (by rw [Hx.out, Hy.out]; simp [e0]))
          clear e0
          go_wp2
          (refine wp_region_ext 37 (by kernel_rfl) (by kernel_rfl) ?_; simp only [List.take_succ_cons, List.take_zero, List.drop_succ_cons, List.drop_zero]; (repeat (go_big_quiet_step ((fail)))); refine wpQuiet_nil ?_; rintro _ ⟨ex, rfl⟩; have hex := ex.below; have hexz := ex.size; (try simp at hexz); (try (have hy0 : w.heap.size < ex.to.heap.size := by omega)); (try (have hy1 : w.heap.size + 1 < ex.to.heap.size := by omega)); (try (have hy2 : w.heap.size + 2 < ex.to.heap.size := by omega)))
          go_wp2
          go_ret
          rw [Hn.out]
          exact ⟨rfl, hwr.trans (ex.below.mono hwr.size)⟩
      · obtain rfl : k = xs.length := by omega
        have Hn := Lib.hid (sameE_all Hl.out Hp.out)
        go_wp2
        go_ret
        rw [Hn.out]
        exact ⟨rfl, hwr⟩
  · have tl : ((xs.length : Int) != (ys.length : Int)) = true := by simp; omega
    have Hn := Lib.hid (sameE_len hl)
    clear hl
    go_enter Try.func26, Try.ntmps26
    go_wp2
    go_ret
    rw [Hn.out]
    exact ⟨rfl, by (repeat (first | exact Below.refl _ _ | refine Below.alloc ?_ (by first | omega | (simp; done) | (simp; omega)) _ | refine Below.drew ?_ | refine Below.setCell ?_ (by first | omega | (simp; done) | (simp; omega)) _ | refine Below.trans ?_ (Below.mono (by assumption) (by first | omega | (simp; done) | (simp; omega)))))⟩

theorem ret_two {a b : Int} {c : Bool} (h : a = b) : Ending.returned (.tuple #[.int .i64 a, .bool c]) = .returned (.tuple #[.int .i64 b, .bool c]) := by rw [h]
set_option maxHeartbeats 1000000 in
theorem refFinish_any (a : Option Addr) (c : Nat) (ar : Option Addr) (cr : Nat) (p : Post) (k : Nat) (before hour : Int) (w : World) (hs : IntsAt w a p.sends) (hk : k < p.sends.length) (ls : p.sends.length ≤ 1000) (b0 : 0 ≤ p.sends[k] ∧ p.sends[k] ≤ 1000) (b1 : 0 ≤ p.pat ∧ p.pat ≤ 1000) :
    Calls Try.prog 68 #[.agg #[.slice a p.sends.length c, .slice ar p.routes.length cr, .int .i64 p.pat], .int .i64 k, .int .i64 before, .int .i64 hour] w fun e w' => e = .returned (.tuple #[.int .i64 (recvF p k before hour).at_, .bool (recvF p k before hour).skip]) ∧ Below w.heap.size w w' := by
  obtain ⟨b, off, rfl, hbl, c0⟩ := hs k hk
  obtain ⟨W1, hW1⟩ : ∃ z : World, z = w.alloc (.cells #[.slice (some ⟨b, off, none⟩) p.sends.length c, .slice ar p.routes.length cr, .int .i64 p.pat] 25) := ⟨_, rfl⟩
  have C0 : Cells W1 w.heap.size #[.slice (some ⟨b, off, none⟩) p.sends.length c, .slice ar p.routes.length cr, .int .i64 p.pat] 25 := by rw [hW1]; exact Cells.new _ _ _
  have t0 : Below w.heap.size w W1 := by rw [hW1]; exact (Below.refl _ _).alloc (Nat.le_refl _) _
  replace c0 := below_cell t0 c0
  have lb := cell_ltK c0
  have lC := C0.lt
  clear hbl
  have c0' := c0.trans (show _ = some (Value.int .i64 p.sends[k]) by simp [hk])
  have Hat : Hid ((recvF p k before hour).at_ = max before (min hour (p.sends[k] + p.pat))) := Lib.hid (by simp [recvF, hk])
  have Hsk : Hid ((recvF p k before hour).skip = decide (p.sends[k] + p.pat < hour)) := Lib.hid (by simp [recvF, hk])
  have hw : IntKind.i64.wrap (p.sends[k] + p.pat) = p.sends[k] + p.pat := IntWalk.i64_in _ (by omega)
  obtain ⟨x, hx⟩ : ∃ x, (recvF p k before hour).at_ = x := ⟨_, rfl⟩
  obtain ⟨y, hy⟩ : ∃ y, (recvF p k before hour).skip = y := ⟨_, rfl⟩
  rw [hx, hy]
  rw [hx] at Hat
  rw [hy] at Hsk
  have hkI : (k : Int) < (p.sends.length : Int) := by omega
  have k0 := C0.cell 0
  have k2 := C0.cell 2
  simp at k0 k2
  obtain ⟨s, hs2⟩ : ∃ s, p.sends[k] = s := ⟨_, rfl⟩
  rw [hs2] at c0' hw Hat Hsk
  obtain ⟨dd, hd⟩ : ∃ d, s + p.pat = d := ⟨_, rfl⟩
  have hw2 : IntKind.i64.wrap (s + p.pat) = dd := by rw [hw, hd]
  rw [hd] at Hat Hsk
  have Hd := Lib.hid hd
  clear hw
  clear c0 hx hy hs2 hd b0
  by_cases hh : dd < hour
  · have e1 := Hat.out
    have e2 := Hsk.out
    rw [show min hour dd = dd by omega] at e1
    rw [decide_eq_true hh] at e2
    subst e2
    have E1 := Lib.hid e1
    clear Hat Hsk e1
    go_enter Try.func68, Try.ntmps68
    go_wp2
    rw [← hW1]
    clear hW1
    (refine wp_region_ext 9 (by kernel_rfl) (by kernel_rfl) ?_; simp only [List.take_succ_cons, List.take_zero, List.drop_succ_cons, List.drop_zero]; (repeat (go_big_quiet_step ((fail)))); refine wpQuiet_nil ?_; rintro _ ⟨ex, rfl⟩; have hex := ex.below; have hexz := ex.size; (try simp at hexz); (try (have hy0 : w.heap.size < ex.to.heap.size := by omega)); (try (have hy1 : w.heap.size + 1 < ex.to.heap.size := by omega)); (try (have hy2 : w.heap.size + 2 < ex.to.heap.size := by omega)))
    go_wp2
    all_goals
      go_ret2
      exact ⟨ret_two (by rw [E1.out]; omega), t0.trans (hex.mono t0.size)⟩
  · have e1 := Hat.out
    have e2 := Hsk.out
    rw [show min hour dd = hour by omega] at e1
    rw [decide_eq_false hh] at e2
    subst e2
    have E1 := Lib.hid e1
    clear Hat Hsk e1
    go_enter Try.func68, Try.ntmps68
    go_wp2
    rw [← hW1]
    clear hW1
    (refine wp_region_ext 9 (by kernel_rfl) (by kernel_rfl) ?_; simp only [List.take_succ_cons, List.take_zero, List.drop_succ_cons, List.drop_zero]; (repeat (go_big_quiet_step ((fail)))); refine wpQuiet_nil ?_; rintro _ ⟨ex, rfl⟩; have hex := ex.below; have hexz := ex.size; (try simp at hexz); (try (have hy0 : w.heap.size < ex.to.heap.size := by omega)); (try (have hy1 : w.heap.size + 1 < ex.to.heap.size := by omega)); (try (have hy2 : w.heap.size + 2 < ex.to.heap.size := by omega)))
    go_wp2
    all_goals
      go_ret2
      exact ⟨ret_two (by rw [E1.out]; omega), t0.trans (hex.mono t0.size)⟩

def routeThin (r : Route) : Bool := decide (r.legs.length ≤ 6) && r.legs.all (fun l => decide (l.asl.length ≤ 5))
def thinB (p : Post) : Bool := decide (p.sends.length ≤ 7) && decide (p.routes.length ≤ 6) && p.routes.all routeThin
theorem thinB_r {p : Post} {k : Nat} (h : k < p.routes.length) (hp : routeThin p.routes[k] = false) : thinB p = false := by
  unfold thinB; rw [all_false_at h hp, Bool.and_false]
theorem routeThin_l {r : Route} {k : Nat} (h : k < r.legs.length) (hp : ¬ r.legs[k].asl.length ≤ 5) : routeThin r = false := by
  unfold routeThin; rw [all_false_at h (by simpa using hp), Bool.and_false]
set_option maxHeartbeats 2000000 in
theorem thin_any (a : Option Addr) (c : Nat) (ar : Option Addr) (cr : Nat) (p : Post) (w : World) (hr : RoutesAt w ar p.routes) (ls : p.sends.length ≤ 9223372036854775807) (lr : p.routes.length ≤ 9223372036854775807) (ll : ∀ r ∈ p.routes, r.legs.length ≤ 9223372036854775807 ∧ ∀ l ∈ r.legs, l.asl.length ≤ 9223372036854775807) :
    Calls Try.prog 17 #[.agg #[.slice a p.sends.length c, .slice ar p.routes.length cr, .int .i64 p.pat]] w fun e w' => e = .returned (.bool (thinB p)) ∧ Below w.heap.size w w' := by
  obtain ⟨W1, hW1⟩ : ∃ z : World, z = w.alloc (.cells #[.slice a p.sends.length c, .slice ar p.routes.length cr, .int .i64 p.pat] 25) := ⟨_, rfl⟩
  have C0 : Cells W1 w.heap.size #[.slice a p.sends.length c, .slice ar p.routes.length cr, .int .i64 p.pat] 25 := by rw [hW1]; exact Cells.new _ _ _
  have t0 : Below w.heap.size w W1 := by rw [hW1]; exact (Below.refl _ _).alloc (Nat.le_refl _) _
  have hr1 := hr.below t0
  have k0 := C0.cell 0
  have k1 := C0.cell 1
  have lC := C0.lt
  simp at k0 k1
  obtain ⟨B, hB⟩ : ∃ B, thinB p = B := ⟨_, rfl⟩
  rw [hB]
  have HB := Lib.hid hB
  clear hB
  by_cases h7 : 7 < p.sends.length
  · have h7I : (7 : Int) < (p.sends.length : Int) := by omega
    obtain rfl : B = false := by rw [← HB.out]; unfold thinB; rw [decide_eq_false (by omega)]; rfl
    rw [hW1] at k0 k1
    clear HB
    go_enter Try.func17, Try.ntmps17
    go_wp2
    go_ret
    rw [← hW1]
    exact ⟨rfl, t0⟩
  have h7I : ¬ (7 : Int) < (p.sends.length : Int) := by omega
  by_cases h6 : 6 < p.routes.length
  · have h6I : (6 : Int) < (p.routes.length : Int) := by omega
    obtain rfl : B = false := by rw [← HB.out]; unfold thinB; rw [decide_eq_false (show ¬ p.routes.length ≤ 6 by omega), Bool.and_false]; rfl
    rw [hW1] at k0 k1
    clear HB
    go_enter Try.func17, Try.ntmps17
    go_wp2
    go_ret
    rw [← hW1]
    exact ⟨rfl, t0⟩
  have h6I : ¬ (6 : Int) < (p.routes.length : Int) := by omega
  have HT : Hid (p.routes.all routeThin = true → B = true) := Lib.hid (fun h => by rw [← HB.out]; unfold thinB; rw [h, decide_eq_true (by omega), decide_eq_true (by omega)]; rfl)
  have HF : Hid (∀ k (h : k < p.routes.length), routeThin p.routes[k] = false → B = false) := Lib.hid (fun k h hp => by rw [← HB.out]; exact thinB_r h hp)
  have HL := Lib.hid ll
  have k0' := k0
  have k1' := k1
  rw [hW1] at k0' k1'
  clear HB ll
  go_enter Try.func17, Try.ntmps17
  go_wp2
  rw [← hW1]
  clear hW1 k0' k1'
  go_loopw [3] (fun o wr => ∃ k : Nat, k ≤ p.routes.length ∧ o = .int .i64 k ∧ (p.routes.take k).all routeThin = true ∧ wr = W1) (fun o _ => p.routes.length - (intOf o).toNat)
  case atStart => exact ⟨0, Nat.zero_le _, rfl, rfl, rfl⟩
  case round =>
    obtain ⟨k, hk, rfl, hp, rfl⟩ := hrel
    have Hp := Lib.hid hp
    clear hp
    by_cases hkl : k < p.routes.length
    · obtain ⟨b4, off4, al, ca, rfl, hbl4, e0, e1, eL⟩ := hr1 k hkl
      have hll := HL.out p.routes[k] (List.getElem_mem hkl)
      have HFk := Lib.hid (HF.out k hkl)
      have HTk : Hid (routeThin p.routes[k] = true → (p.routes.take (k + 1)).all routeThin = true) := Lib.hid (fun h => all_take_succ hkl Hp.out h)
      obtain ⟨r, hr⟩ : ∃ r, p.routes[k] = r := ⟨_, rfl⟩
      rw [hr] at e0 e1 eL hll HFk HTk
      clear hr
      have hkI : (k : Int) < (p.routes.length : Int) := by omega
      by_cases hl6 : 6 < r.legs.length
      · have hl6I : (6 : Int) < (r.legs.length : Int) := by omega
        obtain rfl : B = false := HFk.out (by unfold routeThin; rw [decide_eq_false (by omega)]; rfl)
        clear HFk HTk HF HT
        go_wp2
        go_ret
        exact ⟨rfl, t0⟩
      · have hl6I : ¬ (6 : Int) < (r.legs.length : Int) := by omega
        go_wp2
        obtain ⟨wo, hwo⟩ : ∃ z : World, z = wr := ⟨_, rfl⟩
        subst hwo
        go_loopw [4] (fun o wr => ∃ j : Nat, j ≤ r.legs.length ∧ o = .int .i64 j ∧ (r.legs.take j).all (fun l => decide (l.asl.length ≤ 5)) = true ∧ wr = wo) (fun o _ => r.legs.length - (intOf o).toNat)
        case atStart => exact ⟨0, Nat.zero_le _, rfl, rfl, rfl⟩
        case round =>
          obtain ⟨j, hj, rfl, hq, rfl⟩ := hrel
          have Hq := Lib.hid hq
          clear hq
          by_cases hjl : j < r.legs.length
          · obtain ⟨b6, off6, ar6, c6, rfl, hbl6, m0, m1, m2, hR6⟩ := eL j hjl
            have hjI : (j : Int) < (r.legs.length : Int) := by omega
            have HTj : Hid (r.legs[j].asl.length ≤ 5 → (r.legs.take (j + 1)).all (fun l => decide (l.asl.length ≤ 5)) = true) := Lib.hid (fun h => all_take_succ hjl Hq.out (by simpa using h))
            have HFj : Hid (¬ r.legs[j].asl.length ≤ 5 → routeThin r = false) := Lib.hid (fun h => routeThin_l hjl h)
            have hla := hll.2 _ (List.getElem_mem hjl)
            obtain ⟨n, hn⟩ : ∃ n, r.legs[j].asl.length = n := ⟨_, rfl⟩
            rw [hn] at m2 HTj HFj hla
            clear hn
            by_cases h5 : 5 < n
            · have h5I : (5 : Int) < (n : Int) := by omega
              obtain rfl : B = false := HFk.out (HFj.out (by omega))
              clear HFk HTk HF HT HTj HFj
              go_wp2
              go_ret
              exact ⟨rfl, t0⟩
            · have h5I : ¬ (5 : Int) < (n : Int) := by omega
              go_wp2
              go_roundw
              case rel => exact ⟨j + 1, by omega, by go_num, HTj.out (by omega), by first | rfl | trivial⟩
              case measure => simp [intOf]; omega
          · obtain rfl : j = r.legs.length := by omega
            have ht : routeThin r = true := by
              unfold routeThin; rw [decide_eq_true (by omega)]
              exact all_of_take (Nat.le_refl _) Hq.out
            have Ht := Lib.hid ht
            clear ht
            go_wp2
            go_roundw
            case rel => exact ⟨k + 1, by omega, by go_num, HTk.out Ht.out, by first | rfl | trivial⟩
            case measure => simp [intOf]; omega
    · obtain rfl : k = p.routes.length := by omega
      obtain rfl : B = true := HT.out (all_of_take (Nat.le_refl _) Hp.out)
      clear HT HF
      go_wp2
      go_ret
      exact ⟨rfl, t0⟩
end Go.Proofs.Ytfclemnkcpadpaa
