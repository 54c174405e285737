/- copies: the law's small functions: ints, list, to, between, spans, Entries -/
import Derived.Test.YtfclemnkcpadpaaKz
import Derived.Test.YtfclemnkcpadpaaRb
namespace Go.Proofs.Ytfclemnkcpadpaa
set_option linter.unusedVariables false
set_option linter.unusedSimpArgs false
set_option linter.unnecessarySimpa false
open Go.RowKit Go.Flow

def sameB (a b : List Int) : Bool := decide (a = b)
theorem sameB_len {a b : List Int} (h : ¬ a.length = b.length) : sameB a b = false := by
  unfold sameB; exact decide_eq_false (fun e => h (by rw [e]))
theorem sameB_at {a b : List Int} (k : Nat) (ha : k < a.length) (hb : k < b.length) (h : a[k] ≠ b[k]) : sameB a b = false := by
  unfold sameB; exact decide_eq_false (fun e => h (by subst e; rfl))
theorem sameB_all {a b : List Int} (hl : a.length = b.length) (h : a.take a.length = b.take a.length) : sameB a b = true := by
  unfold sameB; rw [List.take_length, hl, List.take_length] at h; exact decide_eq_true h

set_option maxHeartbeats 1000000 in
theorem ints_any (a : Option Addr) (xs : List Int) (c : Nat) (b : Option Addr) (ys : List Int) (d : Nat) (w : World) (hx : IntsAt w a xs) (hy : IntsAt w b ys) (lx : xs.length ≤ 1000000) (ly : ys.length ≤ 1000000) :
    Calls Try.prog 31 #[.slice a xs.length c, .slice b ys.length d] w fun e w' => e = .returned (.bool (sameB xs ys)) ∧ Below w.heap.size w w' := by
  by_cases hl : xs.length = ys.length
  · have tl : ((xs.length : Int) != (ys.length : Int)) = false := by simp [hl]
    have Hl := Lib.hid hl
    clear hl
    go_enter Try.func31, Try.ntmps31
    go_wp2
    go_loopw [5] (fun i wr => ∃ k : Nat, k ≤ xs.length ∧ i = .int .i64 k ∧ xs.take k = ys.take k ∧ Below w.heap.size w wr) (fun i _ => xs.length - (intOf i).toNat)
    case atStart => exact ⟨0, Nat.zero_le _, rfl, rfl, Below.refl _ _⟩
    case round =>
      obtain ⟨k, hk, rfl, hpre, hwr⟩ := hrel
      have Hp := Lib.hid hpre
      clear hpre
      by_cases hlt : k < xs.length
      · have hlty : k < ys.length := by rw [← Hl.out]; exact hlt
        obtain ⟨b1, off1, rfl, hbl1, hc1⟩ := (hx.below hwr) k hlt
        obtain ⟨b2, off2, rfl, hbl2, hc2⟩ := (hy.below hwr) k hlty
        have hc1' : wr.cell? ⟨b1, off1 + k, none⟩ = some (.int .i64 xs[k]) := hc1.trans (by simp [hlt])
        have hc2' : wr.cell? ⟨b2, off2 + k, none⟩ = some (.int .i64 ys[k]) := hc2.trans (by simp [hlty])
        obtain ⟨x, hxe⟩ : ∃ x, xs[k] = x := ⟨_, rfl⟩
        obtain ⟨y, hye⟩ : ∃ y, ys[k] = y := ⟨_, rfl⟩
        rw [hxe] at hc1'
        rw [hye] at hc2'
        have Hx := Lib.hid hxe
        have Hy := Lib.hid hye
        have l1 : (k : Int) < (xs.length : Int) := by omega
        have l2 : (k : Int) < (ys.length : Int) := by omega
        clear hc1 hc2 hxe hye
        by_cases hxy : x = y
        · have t1 : (x != y) = false := by simp [hxy]
          have Hn : Hid (xs.take (k + 1) = ys.take (k + 1)) := Lib.hid (by rw [List.take_succ_eq_append_getElem hlt, List.take_succ_eq_append_getElem hlty, Hp.out, Hx.out, Hy.out, hxy])
          clear hxy
          go_wp2
          (refine wp_region_ext 9 (by kernel_rfl) (by kernel_rfl) ?_; simp only [List.take_succ_cons, List.take_zero, List.drop_succ_cons, List.drop_zero]; (repeat (go_big_quiet_step ((fail)))); refine wpQuiet_nil ?_; rintro _ ⟨ex, rfl⟩; have hex := ex.below; have hexz := ex.size; (try simp at hexz); (try (have hy0 : w.heap.size < ex.to.heap.size := by omega)); (try (have hy1 : w.heap.size + 1 < ex.to.heap.size := by omega)); (try (have hy2 : w.heap.size + 2 < ex.to.heap.size := by omega)))
          go_wp2
          go_roundw
          case rel => exact ⟨k + 1, by omega, by go_num, Hn.out, hwr.trans (ex.below.mono hwr.size)⟩
          case measure => simp [intOf]; omega
        · have t1 : (x != y) = true := by simp [hxy]
          have Hn := Lib.hid (sameB_at k hlt hlty (by rw [Hx.out, Hy.out]; exact hxy))
          clear hxy
          go_wp2
          (refine wp_region_ext 9 (by kernel_rfl) (by kernel_rfl) ?_; simp only [List.take_succ_cons, List.take_zero, List.drop_succ_cons, List.drop_zero]; (repeat (go_big_quiet_step ((fail)))); refine wpQuiet_nil ?_; rintro _ ⟨ex, rfl⟩; have hex := ex.below; have hexz := ex.size; (try simp at hexz); (try (have hy0 : w.heap.size < ex.to.heap.size := by omega)); (try (have hy1 : w.heap.size + 1 < ex.to.heap.size := by omega)); (try (have hy2 : w.heap.size + 2 < ex.to.heap.size := by omega)))
          go_wp2
          go_ret
          rw [Hn.out]
          exact ⟨rfl, hwr.trans (ex.below.mono hwr.size)⟩
      · obtain rfl : k = xs.length := by omega
        have Hn := Lib.hid (sameB_all Hl.out Hp.out)
        go_wp2
        go_ret
        rw [Hn.out]
        exact ⟨rfl, hwr⟩
  · have tl : ((xs.length : Int) != (ys.length : Int)) = true := by simp; omega
    have Hn := Lib.hid (sameB_len hl)
    clear hl
    go_enter Try.func31, Try.ntmps31
    go_wp2
    go_ret
    rw [Hn.out]
    exact ⟨rfl, by (repeat (first | exact Below.refl _ _ | refine Below.alloc ?_ (by first | omega | (simp; done) | (simp; omega)) _ | refine Below.drew ?_ | refine Below.setCell ?_ (by first | omega | (simp; done) | (simp; omega)) _ | refine Below.trans ?_ (Below.mono (by assumption) (by first | omega | (simp; done) | (simp; omega)))))⟩


set_option maxHeartbeats 400000 in
theorem lawlist_any (a : Option Addr) (l : List Int) (c : Nat) (w : World) (hl : IntsAt w a l) (ln : l.length ≤ 1000000) (hn : a = none → c = 0) :
    Calls Try.prog 62 #[.slice a l.length c] w fun e w' =>
      (∃ a c, e = .returned (.slice a l.length c) ∧ OwnL 3 1 w.heap.size w' a c l.length (l.map (Value.int .i64))) ∧ Below w.heap.size w w' := by
  go_enter Try.func62, Try.ntmps62
  go_wp2_with (at_builtin; refine wpList_app elInt rfl _ _ rfl w.heap.size none 0 0 [] rfl (OwnL.nil _ _ _ _) a l.length c (l.map (Value.int .i64)) rfl (fun h => ?c1) (by simp) (SrcAt.ints hl) (fun u hu => ?c2) ?c3 ?c4 (Nat.le_refl _) ?_)
  case c1 =>
    have hc := hn h
    subst h
    refine ⟨?_, hc⟩
    rcases Nat.eq_zero_or_pos l.length with h0 | h0
    · exact h0
    · obtain ⟨b, off, e, _⟩ := hl 0 h0
      cases e
  case c2 => obtain ⟨z, _, rfl⟩ := List.mem_map.1 hu; rfl
  case c3 => unfold maxLen; omega
  case c4 => omega
  intro a2 c2 w2 own2 hb2
  go_wp2
  go_ret
  exact ⟨⟨a2, c2, rfl, own2⟩, hb2⟩

theorem load_range {w : World} {b : Nat} {v0 v1 : Value} (h : Cells w b #[v0, v1] 68) : (loadVar 68 ⟨b, 0, none⟩).run Try.prog w = .ok (.agg #[v0, v1]) w := by
  have hi := Try.isAgg68
  have hs := Try.sizeOf68
  have k0 := h.cell 0
  have k1 := h.cell 1
  simp at k0 k1
  unfold loadVar
  go_simp
set_option maxHeartbeats 400000 in
theorem to_any (x y : Int) (w : World) :
    Calls Try.prog 37 #[.agg #[.int .i64 x, .int .i64 y]] w fun e w' => e = .returned (.agg #[.int .i64 x, .int .i64 y]) ∧ Below w.heap.size w w' := by
  go_enter Try.func37, Try.ntmps37
  go_wp2
  exact bodyPost_ret (v := .agg #[.int .i64 x, .int .i64 y]) (by simp [results, Try.results37, go_sem]) rfl ⟨rfl, by (repeat (first | exact Below.refl _ _ | refine Below.alloc ?_ (by first | omega | (simp; done) | (simp; omega)) _ | refine Below.drew ?_ | refine Below.setCell ?_ (by first | omega | (simp; done) | (simp; omega)) _ | refine Below.trans ?_ (Below.mono (by assumption) (by first | omega | (simp; done) | (simp; omega)))))⟩
set_option maxHeartbeats 400000 in
theorem between_any (x y : Int) (w : World) :
    Calls Try.prog 47 #[.int .i64 x, .int .i64 y] w fun e w' => e = .returned (.agg #[.int .i64 x, .int .i64 y]) ∧ Below w.heap.size w w' := by
  go_enter Try.func47, Try.ntmps47
  go_wp2
  exact bodyPost_ret (v := .agg #[.int .i64 x, .int .i64 y]) (by simp [results, Try.results47, go_sem]) rfl ⟨rfl, by (repeat (first | exact Below.refl _ _ | refine Below.alloc ?_ (by first | omega | (simp; done) | (simp; omega)) _ | refine Below.drew ?_ | refine Below.setCell ?_ (by first | omega | (simp; done) | (simp; omega)) _ | refine Below.trans ?_ (Below.mono (by assumption) (by first | omega | (simp; done) | (simp; omega)))))⟩

set_option maxHeartbeats 1000000 in
theorem spansConv_any (al : Option Addr) (xs : List (Int × Int)) (cl : Nat) (w : World) (hx : Recs2At w al xs) (lx : xs.length ≤ 1000) :
    Calls Try.prog 63 #[.slice al xs.length cl] w fun e w' => (∃ a c, e = .returned (.slice a xs.length c) ∧ OwnL 68 2 w.heap.size w' a c xs.length (flat2 xs)) ∧ Below w.heap.size w w' := by
  go_enter Try.func63, Try.ntmps63
  go_wp2
  go_loopw [3, 4] (fun v i wr => ∃ (k : Nat) (a' : Option Addr) (c' : Nat), k ≤ xs.length ∧ i = .int .i64 k ∧ v = .slice a' k c' ∧ OwnL 68 2 w.heap.size wr a' c' k (flat2 (xs.take k)) ∧ Below w.heap.size w wr) (fun _ i _ => xs.length - (intOf i).toNat)
  case atStart => exact ⟨0, none, 0, Nat.zero_le _, rfl, rfl, OwnL.nil _ _ _ _, Below.refl _ _⟩
  case round =>
    obtain ⟨k, a', c', hk, rfl, rfl, hown, hwr⟩ := hrel
    have hz := hwr.size
    by_cases hlt : k < xs.length
    · obtain ⟨b, off, rfl, hbl, c0, c1⟩ := (hx.below hwr) k hlt
      have hltI : (k : Int) < (xs.length : Int) := by omega
      obtain ⟨⟨x, y⟩, hxe⟩ : ∃ x, xs[k] = x := ⟨_, rfl⟩
      rw [hxe] at c0 c1
      simp only at c0 c1
      have Hx := Lib.hid hxe
      clear hxe
      go_wp2_with fail
      go_at_call 37
      with_reducible refine (to_any x y _).mono ?_
      rintro e w1 ⟨rfl, hb1⟩
      have hown1 := hown.kept hb1
      have hz1 := hb1.size
      go_wp2_with (at_builtin; refine wpList_app_lit el_cranges rfl _ _ rfl w.heap.size a' k c' _ rfl hown1 1 1 rfl rfl (fun u hu => by simp at hu; rcases hu with rfl | rfl <;> rfl) (by unfold maxLen; omega) (by omega) (by omega) ?_; intro a6 c6 w6 hown6 hb6)
      go_roundw
      case rel => exact ⟨k + 1, a6, c6, by omega, by go_num, rfl, by rw [flat2_take xs k hlt, Hx.out]; exact hown6, (hwr.trans (hb1.mono (by omega))).trans hb6⟩
      case measure => simp [intOf]; omega
    · obtain rfl : k = xs.length := by omega
      rw [List.take_length] at hown
      go_wp2
      go_ret
      exact ⟨⟨a', c', rfl, hown⟩, hwr⟩

theorem flatE_take (xs : List Ent) (k : Nat) (h : k < xs.length) : flatE (xs.take (k + 1)) = flatE (xs.take k) ++ [.int .i64 xs[k].num, .int .i64 xs[k].at_, .bool xs[k].skip] := by
  rw [List.take_succ_eq_append_getElem h, flatE_snoc]
set_option maxHeartbeats 1000000 in
theorem entriesConv_any (al : Option Addr) (xs : List Ent) (cl : Nat) (w : World) (hx : EntsAt w al xs) (lx : xs.length ≤ 1000) :
    Calls Try.prog 41 #[.slice al xs.length cl] w fun e w' => (∃ a c, e = .returned (.slice a xs.length c) ∧ EntsAt w' a xs) ∧ Below w.heap.size w w' := by
  go_enter Try.func41, Try.ntmps41
  go_wp2
  go_loopw [3, 4] (fun v i wr => ∃ (k : Nat) (a' : Option Addr) (c' : Nat), k ≤ xs.length ∧ i = .int .i64 k ∧ v = .slice a' k c' ∧ OwnL 82 3 w.heap.size wr a' c' k (flatE (xs.take k)) ∧ Below w.heap.size w wr) (fun _ i _ => xs.length - (intOf i).toNat)
  case atStart => exact ⟨0, none, 0, Nat.zero_le _, rfl, rfl, OwnL.nil _ _ _ _, Below.refl _ _⟩
  case round =>
    obtain ⟨k, a', c', hk, rfl, rfl, hown, hwr⟩ := hrel
    have hz := hwr.size
    by_cases hlt : k < xs.length
    · obtain ⟨b, off, rfl, hbl, c0, c1, c2⟩ := (hx.below hwr) k hlt
      have hltI : (k : Int) < (xs.length : Int) := by omega
      obtain ⟨⟨x, y, z⟩, hxe⟩ : ∃ x, xs[k] = x := ⟨_, rfl⟩
      rw [hxe] at c0 c1 c2
      simp only at c0 c1 c2
      have Hx := Lib.hid hxe
      clear hxe
      go_wp2
      (refine wp_region_seq 18 [] [18, 19] 31 [true, true, true, true, true, true, true, true, true, true, true, true, true, true, true, true, true, false] [LitV w.heap.size 1 #[.int .i64 x, .int .i64 y, .bool z] 82] (by kernel_rfl) (by kernel_rfl) rfl (mono_cons (fun v w w' h hb => h.kept hb) mono_nil) ?_; simp only [pickOps, List.filterMap_cons, List.filterMap_nil, List.getElem?_toArray, List.getElem?_cons_succ, List.getElem?_cons_zero]; (repeat (refine wpFl_step _ rfl (fun w => (by go_simp; rfl)) ?_)); refine wpFl_nil ?_; simp only [maskOps, dummy, Act.put, List.setIfInBounds_toArray, List.set_cons_zero, List.set_cons_succ, List.take_succ_cons, List.take_zero, List.drop_succ_cons, List.drop_zero]; (repeat (refine wpQB_step (fun K hK => ?_); go_simp; first | (refine hK _ ?_; clear hK K) | (apply Exists.intro; refine ⟨fun ex => ?_, hK _ ?_⟩; (fail); clear hK K))); refine wpQB_nil ?_; simp only [relObl2, under, relEnd, and_true, List.nil_append, List.cons_append])
      exact ⟨fun e => by go_simp; exact ⟨(Below.refl _ _).alloc (Nat.le_refl _) _, e.to.heap.size, rfl, by have := e.size; omega, Cells.new _ _ _⟩, fun e => by
          rintro v1 ⟨gg, rfl, hg1, hgg⟩
          simp only [Act.put, List.setIfInBounds_toArray, List.set_cons_zero, List.set_cons_succ]
          have heb := e.below
          have hez := e.size
          have hown4 := hown.kept heb
          obtain ⟨w5, hw5⟩ : ∃ x : World, x = e.to := ⟨_, rfl⟩
          rw [← hw5] at heb hez hgg hown4 ⊢
          clear hw5
          refine wpList_app el_centries rfl _ _ rfl w.heap.size a' k c' _ rfl hown4 (some ⟨gg, 0, none⟩) 1 1 _ rfl (fun h => by cases h) rfl hgg.src (fun u hu => by simp at hu; rcases hu with rfl | rfl | rfl <;> rfl) (by unfold maxLen; omega) (by omega) (by omega) ?_
          intro a6 c6 w6 hown6 hb6
          go_wp2
          go_roundw
          case rel => exact ⟨k + 1, a6, c6, by omega, by go_num, rfl, by rw [flatE_take xs k hlt, Hx.out]; exact hown6, (hwr.trans (heb.mono (by omega))).trans hb6⟩
          case measure => simp [intOf]; omega⟩
    · obtain rfl : k = xs.length := by omega
      rw [List.take_length] at hown
      go_wp2
      go_ret
      exact ⟨⟨a', c', rfl, hown.ents⟩, hwr⟩
end Go.Proofs.Ytfclemnkcpadpaa
