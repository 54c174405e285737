/- copies' reference: Less, EntriesFault, Explained; the law's booked · copies, plain: Finishes has an hour just when the search finds hours · copies' reference: Some, Explained, Odd; the law's booked · copies' reference: Odd · copies, plain: the ends of spans are reached by one entry -/
import Derived.Test.YtfclemnkcpadpaaRq
import Derived.Test.YtfclemnkcpadpaaPg
import Derived.Test.YtfclemnkcpadpaaRg
import Derived.Test.YtfclemnkcpadpaaCep
import Derived.Test.YtfclemnkcpadpaaRh
namespace Go.Proofs.Ytfclemnkcpadpaa
set_option linter.unusedVariables false
set_option linter.unusedSimpArgs false
set_option linter.unnecessarySimpa false
open Go.RowKit Go.Flow Go.Shelf

theorem lexB_drop {a b : List Int} {k : Nat} (h1 : k < a.length) (h2 : k < b.length) : lexB (a.drop k) (b.drop k) = if a[k] = b[k] then lexB (a.drop (k + 1)) (b.drop (k + 1)) else decide (a[k] < b[k]) := by
  rw [List.drop_eq_getElem_cons h1, List.drop_eq_getElem_cons h2]; rfl
theorem lexB_end (a b : List Int) {k : Nat} (h1 : a.length ≤ k) : lexB (a.drop k) (b.drop k) = false := by
  rw [List.drop_of_length_le h1]; rfl

set_option maxHeartbeats 2000000 in
theorem less_any (a : Option Addr) (xs : List Int) (c : Nat) (b : Option Addr) (ys : List Int) (d : Nat) (w : World) (hx : IntsAt w a xs) (hy : IntsAt w b ys) (lx : xs.length ≤ 1000000) (ly : ys.length ≤ 1000000) :
    Calls Try.prog 51 #[.slice a xs.length c, .slice b ys.length d] w fun e w' => e = .returned (.bool (lessB xs ys)) ∧ Below w.heap.size w w' := by
  by_cases hl : xs.length = ys.length
  · have tl : ((xs.length : Int) == (ys.length : Int)) = true := by simp [hl]
    have tl2 : ¬ ((xs.length : Int) < (ys.length : Int)) := by omega
    have Hl := Lib.hid hl
    have He : Hid (lessB xs ys = lexB xs ys) := Lib.hid (by unfold lessB; rw [if_pos hl])
    clear hl
    go_enter Try.func51, Try.ntmps51
    go_wp2
    go_loopw [5] (fun i wr => ∃ k : Nat, k ≤ xs.length ∧ i = .int .i64 k ∧ lessB xs ys = lexB (xs.drop k) (ys.drop k) ∧ Below w.heap.size w wr) (fun i _ => xs.length - (intOf i).toNat)
    case atStart => exact ⟨0, Nat.zero_le _, rfl, He.out, Below.refl _ _⟩
    case round =>
      obtain ⟨k, hk, rfl, hpre, hwr⟩ := hrel
      have Hp := Lib.hid hpre
      clear hpre
      by_cases hlt : k < xs.length
      · have hlty : k < ys.length := by rw [← Hl.out]; exact hlt
        obtain ⟨b1, off1, rfl, hbl1, p0⟩ := (hx.below hwr) k hlt
        obtain ⟨b2, off2, rfl, hbl2, q0⟩ := (hy.below hwr) k hlty
        have hd := lexB_drop hlt hlty
        replace p0 : wr.cell? ⟨b1, off1 + k, none⟩ = some (.int .i64 xs[k]) := p0.trans (by simp [hlt])
        replace q0 : wr.cell? ⟨b2, off2 + k, none⟩ = some (.int .i64 ys[k]) := q0.trans (by simp [hlty])
        obtain ⟨x, hxe⟩ : ∃ x, xs[k] = x := ⟨_, rfl⟩
        obtain ⟨y, hye⟩ : ∃ y, ys[k] = y := ⟨_, rfl⟩
        rw [hxe] at p0 hd
        rw [hye] at q0 hd
        have l1 : (k : Int) < (xs.length : Int) := by omega
        have l2 : (k : Int) < (ys.length : Int) := by omega
        clear hxe hye
        by_cases e0 : x = y
        · have t0 : (x != y) = false := by simp [e0]
          have Hn : Hid (lessB xs ys = lexB (xs.drop (k + 1)) (ys.drop (k + 1))) := Lib.hid (by rw [Hp.out, hd, if_pos e0])
          clear e0 hd
          go_wp2
          (refine wp_region_ext 9 (by kernel_rfl) (by kernel_rfl) ?_; simp only [List.take_succ_cons, List.take_zero, List.drop_succ_cons, List.drop_zero]; (repeat (go_big_quiet_step ((fail)))); refine wpQuiet_nil ?_; rintro _ ⟨ex, rfl⟩; have hex := ex.below; have hexz := ex.size; (try simp at hexz); (try (have hy0 : w.heap.size < ex.to.heap.size := by omega)); (try (have hy1 : w.heap.size + 1 < ex.to.heap.size := by omega)); (try (have hy2 : w.heap.size + 2 < ex.to.heap.size := by omega)))
          go_wp2
          go_roundw
          case rel => exact ⟨k + 1, by omega, by go_num, Hn.out, hwr.trans (ex.below.mono hwr.size)⟩
          case measure => simp [intOf]; omega
        · have t0 : (x != y) = true := by simp [e0]
          have Hn : Hid (lessB xs ys = decide (x < y)) := Lib.hid (by rw [Hp.out, hd, if_neg e0])
          clear e0 hd
          go_wp2
          (refine wp_region_ext 9 (by kernel_rfl) (by kernel_rfl) ?_; simp only [List.take_succ_cons, List.take_zero, List.drop_succ_cons, List.drop_zero]; (repeat (go_big_quiet_step ((fail)))); refine wpQuiet_nil ?_; rintro _ ⟨ex, rfl⟩; have hex := ex.below; have hexz := ex.size; (try simp at hexz); (try (have hy0 : w.heap.size < ex.to.heap.size := by omega)); (try (have hy1 : w.heap.size + 1 < ex.to.heap.size := by omega)); (try (have hy2 : w.heap.size + 2 < ex.to.heap.size := by omega)))
          have p1 := below_cell ex.below p0
          have q1 := below_cell ex.below q0
          have hb1' := cell_ltK p1
          have hb2' := cell_ltK q1
          obtain ⟨V, hV⟩ : ∃ z : World, z = ex.to := ⟨_, rfl⟩
          have jV : Below wr.heap.size wr V := by rw [hV]; exact ex.below
          rw [← hV] at p1 q1 hb1' hb2' ⊢
          clear hV hex hexz ex
          go_wp2
          (refine wp_region_ext 9 (by kernel_rfl) (by kernel_rfl) ?_; simp only [List.take_succ_cons, List.take_zero, List.drop_succ_cons, List.drop_zero]; (repeat (go_big_quiet_step ((fail)))); refine wpQuiet_nil ?_; rintro _ ⟨ex, rfl⟩; have hex := ex.below; have hexz := ex.size; (try simp at hexz); (try (have hy0 : w.heap.size < ex.to.heap.size := by omega)); (try (have hy1 : w.heap.size + 1 < ex.to.heap.size := by omega)); (try (have hy2 : w.heap.size + 2 < ex.to.heap.size := by omega)))
          go_wp2
          go_ret
          rw [Hn.out]
          exact ⟨rfl, hwr.trans ((jV.trans (ex.below.mono jV.size)).mono hwr.size)⟩
      · obtain rfl : k = xs.length := by omega
        have Hn : Hid (lessB xs ys = false) := Lib.hid (by rw [Hp.out, lexB_end _ _ (Nat.le_refl _)])
        go_wp2
        go_ret
        exact ⟨ret_b (by rw [Hn.out, decide_eq_false]; have := Hl.out; omega), hwr⟩
  · have tl : ((xs.length : Int) == (ys.length : Int)) = false := by simp; omega
    have He : Hid (lessB xs ys = decide (xs.length < ys.length)) := Lib.hid (by unfold lessB; rw [if_neg hl])
    clear hl
    have hc : decide ((xs.length : Int) < (ys.length : Int)) = decide (xs.length < ys.length) := by simp
    go_enter Try.func51, Try.ntmps51
    by_cases h0 : 0 < xs.length
    · have h0' : (0 : Int) < (xs.length : Int) := by omega
      go_wp2
      go_loopw [5] (fun i wr => i = .int .i64 0 ∧ wr = w) (fun i _ => 0)
      case atStart => exact ⟨rfl, rfl⟩
      case round =>
        obtain ⟨rfl, rfl⟩ := hrel
        go_wp2
        go_ret
        rw [He.out, ← hc]
        exact ⟨rfl, Below.refl _ _⟩
    · have h0' : ¬ ((0 : Int) < (xs.length : Int)) := by omega
      go_wp2
      go_loopw [5] (fun i wr => i = .int .i64 0 ∧ wr = w) (fun i _ => 0)
      case atStart => exact ⟨rfl, rfl⟩
      case round =>
        obtain ⟨rfl, rfl⟩ := hrel
        go_wp2
        go_ret
        rw [He.out, ← hc]
        exact ⟨rfl, Below.refl _ _⟩

def entsErr (n : Nat) (l : List Ent) : Int := if 8 < l.length then 3 else if l.all (entOk n) then 0 else 2
theorem entsErr_bd (n : Nat) (l : List Ent) : 0 ≤ entsErr n l ∧ entsErr n l ≤ 3 := by unfold entsErr; (repeat' split) <;> omega
set_option maxHeartbeats 2000000 in
theorem entriesFault_any (a : Option Addr) (c : Nat) (ar : Option Addr) (cr : Nat) (p : Post) (al : Option Addr) (l : List Ent) (cl : Nat) (w : World) (hl : EntsAt w al l) (ll : l.length ≤ 1000000) (ls : p.sends.length ≤ 1000000) :
    Calls Try.prog 83 #[.agg #[.slice a p.sends.length c, .slice ar p.routes.length cr, .int .i64 p.pat], .slice al l.length cl] w fun e w' => e = .returned (.int .i64 (entsErr p.sends.length l)) ∧ Below w.heap.size w w' := by
  obtain ⟨W1, hW1⟩ : ∃ z : World, z = w.alloc (.cells #[.slice a p.sends.length c, .slice ar p.routes.length cr, .int .i64 p.pat] 25) := ⟨_, rfl⟩
  have C0 : Cells W1 w.heap.size #[.slice a p.sends.length c, .slice ar p.routes.length cr, .int .i64 p.pat] 25 := by rw [hW1]; exact Cells.new _ _ _
  have t0 : Below w.heap.size w W1 := by rw [hW1]; exact (Below.refl _ _).alloc (Nat.le_refl _) _
  have hws : IntKind.i64.wrap ((p.sends.length : Int) - 1) = (p.sends.length : Int) - 1 := IntWalk.i64_in _ (by omega)
  by_cases h8 : 8 < l.length
  · have h8I : (8 : Int) < (l.length : Int) := by omega
    have He : Hid (entsErr p.sends.length l = 3) := Lib.hid (by unfold entsErr; rw [if_pos h8])
    go_enter Try.func83, Try.ntmps83
    go_wp2
    rw [← hW1]
    go_ret
    rw [He.out]
    exact ⟨rfl, t0⟩
  · have h8I : ¬ ((8 : Int) < (l.length : Int)) := by omega
    have He : Hid (entsErr p.sends.length l = if l.all (entOk p.sends.length) then 0 else 2) := Lib.hid (by unfold entsErr; rw [if_neg h8])
    go_enter Try.func83, Try.ntmps83
    go_wp2
    rw [← hW1]
    clear hW1
    go_loopw [5] (fun i wr => ∃ k : Nat, k ≤ l.length ∧ i = .int .i64 k ∧ (l.take k).all (entOk p.sends.length) = true ∧ Below W1.heap.size W1 wr) (fun i _ => l.length - (intOf i).toNat)
    case atStart => exact ⟨0, Nat.zero_le _, rfl, rfl, Below.refl _ _⟩
    case round =>
      obtain ⟨k, hk, rfl, hpre, hwr⟩ := hrel
      have Hp := Lib.hid hpre
      clear hpre
      have tw := t0.trans (hwr.mono t0.size)
      have q0 := (C0.below hwr).cell 0
      have lq := (C0.below hwr).lt
      simp at q0
      by_cases hlt : k < l.length
      · have hlI : (k : Int) < (l.length : Int) := by omega
        obtain ⟨b, off, rfl, hbl, z0, z1, z2⟩ := (hl.below tw) k hlt
        have Hok : Hid (entOk p.sends.length l[k] = (inR l[k].num (0, (p.sends.length : Int) - 1) && inR l[k].at_ (0, 100))) := Lib.hid rfl
        have Ht := Lib.hid (fun h => all_take_succ (p := entOk p.sends.length) hlt Hp.out h)
        have Hf := Lib.hid (fun h => all_false_at (p := entOk p.sends.length) hlt h)
        obtain ⟨⟨x, y, z⟩, hxe⟩ : ∃ x, l[k] = x := ⟨_, rfl⟩
        rw [hxe] at z0 z1 z2 Ht Hf Hok
        simp only at z0 z1 z2 Hok
        clear hxe
        cases h1 : inR x (0, (p.sends.length : Int) - 1)
        · have Hn : Hid (entsErr p.sends.length l = 2) := Lib.hid (by rw [He.out, Hf.out (by rw [Hok.out, h1]; rfl)]; rfl)
          go_wp2
          (refine wp_region_ext 20 (by kernel_rfl) (by kernel_rfl) ?_; simp only [List.take_succ_cons, List.take_zero, List.drop_succ_cons, List.drop_zero]; (repeat (go_big_quiet_step (((go_at_call 29; first | refine Calls_ext_same (refIn_any x 0 _ _)))))); refine wpQuiet_nil ?_; rintro _ ⟨ex, rfl⟩; have hex := ex.below; have hexz := ex.size; (try simp at hexz); (try (have hy0 : w.heap.size < ex.to.heap.size := by omega)); (try (have hy1 : w.heap.size + 1 < ex.to.heap.size := by omega)); (try (have hy2 : w.heap.size + 2 < ex.to.heap.size := by omega)))
          go_wp2
          go_ret
          rw [Hn.out]
          exact ⟨rfl, tw.trans (ex.below.mono tw.size)⟩
        · cases h2 : inR y (0, 100)
          · have Hn : Hid (entsErr p.sends.length l = 2) := Lib.hid (by rw [He.out, Hf.out (by rw [Hok.out, h1, h2]; rfl)]; rfl)
            go_wp2
            (refine wp_region_ext 20 (by kernel_rfl) (by kernel_rfl) ?_; simp only [List.take_succ_cons, List.take_zero, List.drop_succ_cons, List.drop_zero]; (repeat (go_big_quiet_step (((go_at_call 29; first | (with_reducible refine Calls_ext_same (refIn_any x 0 _ _)) | (with_reducible refine Calls_ext_same (refIn_any y 0 _ _))))))); refine wpQuiet_nil ?_; rintro _ ⟨ex, rfl⟩; have hex := ex.below; have hexz := ex.size; (try simp at hexz); (try (have hy0 : w.heap.size < ex.to.heap.size := by omega)); (try (have hy1 : w.heap.size + 1 < ex.to.heap.size := by omega)); (try (have hy2 : w.heap.size + 2 < ex.to.heap.size := by omega)))
            go_wp2
            go_ret
            rw [Hn.out]
            exact ⟨rfl, tw.trans (ex.below.mono tw.size)⟩
          · have Hn := Lib.hid (Ht.out (by rw [Hok.out, h1, h2]; rfl))
            go_wp2
            (refine wp_region_ext 20 (by kernel_rfl) (by kernel_rfl) ?_; simp only [List.take_succ_cons, List.take_zero, List.drop_succ_cons, List.drop_zero]; (repeat (go_big_quiet_step (((go_at_call 29; first | (with_reducible refine Calls_ext_same (refIn_any x 0 _ _)) | (with_reducible refine Calls_ext_same (refIn_any y 0 _ _))))))); refine wpQuiet_nil ?_; rintro _ ⟨ex, rfl⟩; have hex := ex.below; have hexz := ex.size; (try simp at hexz); (try (have hy0 : w.heap.size < ex.to.heap.size := by omega)); (try (have hy1 : w.heap.size + 1 < ex.to.heap.size := by omega)); (try (have hy2 : w.heap.size + 2 < ex.to.heap.size := by omega)))
            go_wp2
            go_roundw
            case rel => exact ⟨k + 1, by omega, by go_num, Hn.out, hwr.trans (ex.below.mono hwr.size)⟩
            case measure => simp [intOf]; omega
      · obtain rfl : k = l.length := by omega
        have Hn : Hid (entsErr p.sends.length l = 0) := Lib.hid (by rw [He.out, all_of_take (Nat.le_refl _) Hp.out]; rfl)
        go_wp2
        go_ret
        rw [Hn.out]
        exact ⟨rfl, tw⟩
end Go.Proofs.Ytfclemnkcpadpaa

namespace Go.Proofs.Ytfclemnkcpadpaa
set_option linter.unusedVariables false
set_option linter.unusedSimpArgs false
set_option linter.unnecessarySimpa false
open Go.RowKit Go.Flow Go.Shelf

theorem endsN_any (F : Hrs) : ∀ n, 0 ≤ (endsN F n).2 ↔ ∃ k, k < n ∧ F k = true
  | 0 => by simp [endsN]
  | n + 1 => by
    have ih := endsN_any F n
    cases h : F n
    · rw [endsN_no h, ih]
      constructor
      · rintro ⟨k, h1, h2⟩; exact ⟨k, by omega, h2⟩
      · rintro ⟨k, h1, h2⟩
        refine ⟨k, ?_, h2⟩
        rcases Nat.lt_or_eq_of_le (Nat.lt_succ_iff.1 h1) with h3 | h3
        · exact h3
        · rw [h3, h] at h2; cases h2
    · rw [endsN_yes h]
      constructor
      · intro _; exact ⟨n, by omega, h⟩
      · intro _; show (0 : Int) ≤ (n : Int); omega
theorem nextR_iff {p : Post} {l : List Ent} {r i : Nat} {f : Int} : (nextR p l (r + 1) i f).isSome = true ↔ ∃ h : Nat, h < 102 ∧ canB p i h = true ∧ fitsB l (recvF p i f h) i = true ∧ (nextR p l r (i + 1) (recvF p i f h).at_).isSome = true := by
  rw [nextR, List.findSome?_isSome_iff]
  simp only [List.mem_range]
  constructor
  · rintro ⟨h, hh, hx⟩
    by_cases hc : (canB p i h && fitsB l (recvF p i f h) i) = true
    · rw [if_pos hc, Option.isSome_map] at hx
      rw [Bool.and_eq_true] at hc
      exact ⟨h, hh, hc.1, hc.2, hx⟩
    · rw [if_neg hc] at hx; cases hx
  · rintro ⟨h, hh, h1, h2, hx⟩
    refine ⟨h, hh, ?_⟩
    rw [if_pos (by rw [h1, h2]; rfl), Option.isSome_map]
    exact hx
theorem recv_nat (p : Post) (i f h : Nat) : (recvF p i f h).at_ = (finM p i f h : Int) := by
  unfold finM recvF
  simp only
  omega
theorem finS_le {p : Post} (h0 : postErr p = 0) (l : List Ent) : ∀ k, k ≤ p.sends.length → ∀ n, finS p l k n = true → n ≤ 60
  | 0, _, n, hn => by
    have : n = 0 := of_decide_eq_true hn
    omega
  | k + 1, hk, n, hn => by
    obtain ⟨x, y, hx, hy, hf, hg, _, rfl⟩ := rowG_iff.1 hn
    have := finS_le h0 l k (by omega) x hf
    have := finM_eq p (k := k) (a := x) (b := y)
    have := dead_bd h0 (k := k) (by omega)
    omega
theorem finS_next {p : Post} (h0 : postErr p = 0) (l : List Ent) {i r : Nat} (hir : i + (r + 1) = p.sends.length) : (∃ f : Nat, finS p l i f = true ∧ (nextR p l (r + 1) i f).isSome = true) ↔ ∃ f : Nat, finS p l (i + 1) f = true ∧ (nextR p l r (i + 1) f).isSome = true := by
  constructor
  · rintro ⟨f, hf, hn⟩
    obtain ⟨h, hh, h1, h2, h3⟩ := nextR_iff.1 hn
    have := finS_le h0 l i (by omega) f hf
    refine ⟨finM p i f h, rowG_iff.2 ⟨f, h, by omega, hh, hf, by rw [comF_can h0 (by omega) (by omega)]; exact h1, h2, rfl⟩, ?_⟩
    rw [← recv_nat]; exact h3
  · rintro ⟨f', hf', hn⟩
    obtain ⟨f, h, hx, hh, hf, hg, hT, rfl⟩ := rowG_iff.1 hf'
    refine ⟨f, hf, nextR_iff.2 ⟨h, hh, by rw [← comF_can h0 (by omega) (by omega)]; exact hg, hT, ?_⟩⟩
    rw [recv_nat]; exact hn
theorem finS_search {p : Post} (h0 : postErr p = 0) (l : List Ent) : ∀ r i, i + r = p.sends.length → ((∃ f : Nat, finS p l i f = true ∧ (nextR p l r i f).isSome = true) ↔ ∃ f : Nat, finS p l p.sends.length f = true)
  | 0, i, hi => by
    obtain rfl : i = p.sends.length := by omega
    constructor
    · rintro ⟨f, hf, _⟩; exact ⟨f, hf⟩
    · rintro ⟨f, hf⟩; exact ⟨f, hf, by rw [nextR]; rfl⟩
  | r + 1, i, hi => by
    rw [finS_next h0 l (by omega)]
    exact finS_search h0 l r (i + 1) (by omega)
theorem ends_expl {p : Post} (h0 : postErr p = 0) (l : List Ent) : decide (0 ≤ (endsN (finS p l p.sends.length) 102).2) = explB p l := by
  have key := finS_search h0 l p.sends.length 0 (by omega)
  rw [Bool.eq_iff_iff, decide_eq_true_eq, endsN_any]
  unfold explB searchF
  constructor
  · rintro ⟨k, _, hk⟩
    obtain ⟨f, hf, hn⟩ := key.2 ⟨k, hk⟩
    have : f = 0 := of_decide_eq_true hf
    subst this
    exact hn
  · intro hn
    obtain ⟨f, hf⟩ := key.1 ⟨0, rfl, hn⟩
    have := finS_le h0 l _ (Nat.le_refl _) f hf
    exact ⟨f, by omega, hf⟩
end Go.Proofs.Ytfclemnkcpadpaa

namespace Go.Proofs.Ytfclemnkcpadpaa
set_option linter.unusedVariables false
set_option linter.unusedSimpArgs false
set_option linter.unnecessarySimpa false
open Go.RowKit Go.Flow Go.Shelf

set_option maxHeartbeats 2000000 in
theorem booked_eq (a : Option Addr) (c : Nat) (ar : Option Addr) (cr : Nat) (p : Post) (al : Option Addr) (l : List Ent) (cl : Nat) (w : World) (E : Int) (hE : Hid (bookErr p l = E)) (hs : IntsAt w a p.sends) (hr : RoutesAt w ar p.routes) (sm : Hid (PostSmall p)) (hl : EntsAt w al l) (ll : l.length ≤ 1000000) :
    Calls Try.prog 42 #[.agg #[.slice a p.sends.length c, .slice ar p.routes.length cr, .int .i64 p.pat], .slice al l.length cl] w fun e w' => e = .returned (.int .i64 E) ∧ Below w.heap.size w w' := by
  rw [← hE.out]
  clear hE
  have lS := sm.out.1
  by_cases h0 : postErr p = 0
  · have hq : bookErr p l = entsErr p.sends.length l := by unfold bookErr entsErr; rw [if_neg (by simpa using h0)]
    rw [hq]
    have H0 := Lib.hid h0
    obtain ⟨F, hF⟩ : ∃ F, entsErr p.sends.length l = F := ⟨_, rfl⟩
    have hbd := entsErr_bd p.sends.length l
    have hef := fun X (h : EntsAt X al l) => entriesFault_any a c ar cr p al l cl X h ll (by omega)
    rw [hF] at hbd hef ⊢
    clear hq hF h0
    go_enter Try.func42, Try.ntmps42
    go_wp2_with fail
    go_at_call 24
    refine (fault_eq a c ar cr p _ 0 H0 (hs.below (by (repeat (first | exact Below.refl _ _ | refine Below.alloc ?_ (by first | omega | (simp; done) | (simp; omega)) _ | refine Below.drew ?_ | refine Below.setCell ?_ (by first | omega | (simp; done) | (simp; omega)) _ | refine Below.trans ?_ (Below.mono (by assumption) (by first | omega | (simp; done) | (simp; omega))))))) (hr.below (by (repeat (first | exact Below.refl _ _ | refine Below.alloc ?_ (by first | omega | (simp; done) | (simp; omega)) _ | refine Below.drew ?_ | refine Below.setCell ?_ (by first | omega | (simp; done) | (simp; omega)) _ | refine Below.trans ?_ (Below.mono (by assumption) (by first | omega | (simp; done) | (simp; omega))))))) sm).mono ?_
    rintro e w1 ⟨rfl, b1⟩
    have t1 : Below w.heap.size w w1 := by (repeat (first | exact Below.refl _ _ | refine Below.alloc ?_ (by first | omega | (simp; done) | (simp; omega)) _ | refine Below.drew ?_ | refine Below.setCell ?_ (by first | omega | (simp; done) | (simp; omega)) _ | refine Below.trans ?_ (Below.mono (by assumption) (by first | omega | (simp; done) | (simp; omega)))))
    have q0 := box_cells b1 0 rfl
    have q1 := box_cells b1 1 rfl
    have q2 := box_cells b1 2 rfl
    have lB := cell_ltK q0
    go_wp2_with fail
    go_at_call 83
    refine (hef _ (hl.below (by (repeat (first | exact Below.refl _ _ | refine Below.alloc ?_ (by first | omega | (simp; done) | (simp; omega)) _ | refine Below.drew ?_ | refine Below.setCell ?_ (by first | omega | (simp; done) | (simp; omega)) _ | refine Below.trans ?_ (Below.mono (by assumption) (by first | omega | (simp; done) | (simp; omega)))))))).mono ?_
    rintro e w2 ⟨rfl, b2⟩
    have j2 : Below w1.heap.size w1 w2 := by (repeat (first | exact Below.refl _ _ | refine Below.alloc ?_ (by first | omega | (simp; done) | (simp; omega)) _ | refine Below.drew ?_ | refine Below.setCell ?_ (by first | omega | (simp; done) | (simp; omega)) _ | refine Below.trans ?_ (Below.mono (by assumption) (by first | omega | (simp; done) | (simp; omega)))))
    go_wp2_with fail
    go_ret
    exact ⟨rfl, t1.trans (j2.mono t1.size)⟩
  · have hq : bookErr p l = postErr p := by unfold bookErr; rw [if_pos h0]
    rw [hq]
    obtain ⟨F, hF⟩ : ∃ F, postErr p = F := ⟨_, rfl⟩
    have hbd := postErr_bd p
    rw [hF] at h0 hbd ⊢
    have HF := Lib.hid hF
    have hne : (F != 0) = true := by simpa using h0
    clear hq hF
    go_enter Try.func42, Try.ntmps42
    go_wp2_with fail
    go_at_call 24
    refine (fault_eq a c ar cr p _ F HF (hs.below (by (repeat (first | exact Below.refl _ _ | refine Below.alloc ?_ (by first | omega | (simp; done) | (simp; omega)) _ | refine Below.drew ?_ | refine Below.setCell ?_ (by first | omega | (simp; done) | (simp; omega)) _ | refine Below.trans ?_ (Below.mono (by assumption) (by first | omega | (simp; done) | (simp; omega))))))) (hr.below (by (repeat (first | exact Below.refl _ _ | refine Below.alloc ?_ (by first | omega | (simp; done) | (simp; omega)) _ | refine Below.drew ?_ | refine Below.setCell ?_ (by first | omega | (simp; done) | (simp; omega)) _ | refine Below.trans ?_ (Below.mono (by assumption) (by first | omega | (simp; done) | (simp; omega))))))) sm).mono ?_
    rintro e w1 ⟨rfl, b1⟩
    have t1 : Below w.heap.size w w1 := by (repeat (first | exact Below.refl _ _ | refine Below.alloc ?_ (by first | omega | (simp; done) | (simp; omega)) _ | refine Below.drew ?_ | refine Below.setCell ?_ (by first | omega | (simp; done) | (simp; omega)) _ | refine Below.trans ?_ (Below.mono (by assumption) (by first | omega | (simp; done) | (simp; omega)))))
    go_wp2_with fail
    go_ret
    exact ⟨rfl, t1⟩

set_option maxRecDepth 100000 in
set_option maxHeartbeats 4000000 in
theorem explained_eq (a : Option Addr) (c : Nat) (ar : Option Addr) (cr : Nat) (p : Post) (al : Option Addr) (l : List Ent) (cl : Nat) (w : World) (B : Bool) (hB : Hid (explB p l = B)) (hs : IntsAt w a p.sends) (hr : RoutesAt w ar p.routes) (H0 : Hid (postErr p = 0)) (hl : EntsAt w al l) (ll : l.length ≤ 1000) :
    Calls Try.prog 54 #[.agg #[.slice a p.sends.length c, .slice ar p.routes.length cr, .int .i64 p.pat], .slice al l.length cl] w fun e w' => e = .returned (.bool B) ∧ Below w.heap.size w w' := by
  have lS := (postErr_ok H0.out).1
  have hne : 0 < p.sends.length := List.length_pos_iff.2 (postErr_ok H0.out).2.2.2.1
  obtain ⟨i, hi⟩ : ∃ i, p.sends.length = i + 1 := ⟨p.sends.length - 1, by omega⟩
  have hws : IntKind.i64.wrap ((p.sends.length : Int) - 1) = (i : Int) := by rw [IntWalk.i64_in _ (by omega)]; omega
  have hF := fun X (h1 : IntsAt X a p.sends) (h2 : RoutesAt X ar p.routes) (h3 : EntsAt X al l) => refFinishes_any a c ar cr p i al l cl X h1 h2 h3 ll H0.out (by omega)
  have he := ends_expl H0.out l
  rw [hi, hB.out] at he
  obtain ⟨F, hFe⟩ : ∃ F, finS p l (i + 1) = F := ⟨_, rfl⟩
  rw [hFe] at hF he
  obtain ⟨⟨lo, hi'⟩, hlh⟩ : ∃ x, endsN F 102 = x := ⟨_, rfl⟩
  rw [hlh] at he
  have HEn := Lib.hid hlh
  have He : Hid (decide (0 ≤ hi') = B) := Lib.hid he
  clear hFe hlh he hB hi
  go_enter Try.func54, Try.ntmps54
  go_wp2_with fail
  go_at_call 36
  refine (hF _ (hs.below (by (repeat (first | exact Below.refl _ _ | refine Below.alloc ?_ (by first | omega | (simp; done) | (simp; omega)) _ | refine Below.drew ?_ | refine Below.setCell ?_ (by first | omega | (simp; done) | (simp; omega)) _ | refine Below.trans ?_ (Below.mono (by assumption) (by first | omega | (simp; done) | (simp; omega))))))) (hr.below (by (repeat (first | exact Below.refl _ _ | refine Below.alloc ?_ (by first | omega | (simp; done) | (simp; omega)) _ | refine Below.drew ?_ | refine Below.setCell ?_ (by first | omega | (simp; done) | (simp; omega)) _ | refine Below.trans ?_ (Below.mono (by assumption) (by first | omega | (simp; done) | (simp; omega))))))) (hl.below (by (repeat (first | exact Below.refl _ _ | refine Below.alloc ?_ (by first | omega | (simp; done) | (simp; omega)) _ | refine Below.drew ?_ | refine Below.setCell ?_ (by first | omega | (simp; done) | (simp; omega)) _ | refine Below.trans ?_ (Below.mono (by assumption) (by first | omega | (simp; done) | (simp; omega)))))))).mono ?_
  rintro e w1 ⟨rfl, b1⟩
  have t1 : Below w.heap.size w w1 := by (repeat (first | exact Below.refl _ _ | refine Below.alloc ?_ (by first | omega | (simp; done) | (simp; omega)) _ | refine Below.drew ?_ | refine Below.setCell ?_ (by first | omega | (simp; done) | (simp; omega)) _ | refine Below.trans ?_ (Below.mono (by assumption) (by first | omega | (simp; done) | (simp; omega)))))
  go_wp2_with fail
  go_at_call 35
  refine (refEnds_eq F lo hi' HEn _).mono ?_
  rintro e w2 ⟨rfl, b2⟩
  have j2 : Below w1.heap.size w1 w2 := by (repeat (first | exact Below.refl _ _ | refine Below.alloc ?_ (by first | omega | (simp; done) | (simp; omega)) _ | refine Below.drew ?_ | refine Below.setCell ?_ (by first | omega | (simp; done) | (simp; omega)) _ | refine Below.trans ?_ (Below.mono (by assumption) (by first | omega | (simp; done) | (simp; omega)))))
  have t2 := t1.trans (j2.mono t1.size)
  rw [He.out]
  go_wp2_with fail
  go_ret
  exact ⟨rfl, t2.alloc t2.size _⟩

theorem info_rent : (Try.prog.info? 93).map (fun i => (i.zero, i.size, i.bytes)) = some (some (.agg #[.int .i64 0, .int .i64 0, .bool false]), 3, 24) := by kernel_rfl
theorem bit_off {b k : Nat} (h : b.testBit k = false) : ((b : Int) / 2 ^ k).tmod 2 = 0 := by
  rw [Nat.testBit_eq_decide_div_mod_eq] at h
  have h1 := of_decide_eq_false h
  have e : ((b : Int) / 2 ^ k) = ((b / 2 ^ k : Nat) : Int) := by simp
  rw [e]
  generalize b / 2 ^ k = q at h1
  rw [Int.tmod_eq_emod_of_nonneg (Int.natCast_nonneg q)]
  omega
theorem bit_on {b k : Nat} (h : b.testBit k = true) : ((b : Int) / 2 ^ k).tmod 2 = 1 := by
  rw [Nat.testBit_eq_decide_div_mod_eq] at h
  have h1 := of_decide_eq_true h
  have e : ((b : Int) / 2 ^ k) = ((b / 2 ^ k : Nat) : Int) := by simp
  rw [e]
  generalize b / 2 ^ k = q at h1
  rw [Int.tmod_eq_emod_of_nonneg (Int.natCast_nonneg q)]
  omega
theorem keepB_take (l : List Ent) (b : Nat) {k : Nat} (h : k < l.length) : keepB l b (k + 1) = keepB l b k ++ if b.testBit k then [] else [l[k]] := by
  rw [keepB_succ]
  congr 2
  simp [h]

set_option maxRecDepth 100000 in
set_option maxHeartbeats 4000000 in
theorem some_any (al : Option Addr) (l : List Ent) (cl : Nat) (b : Nat) (w : World) (hl : EntsAt w al l) (ll : l.length ≤ 10) (hb : b < 1024) :
    Calls Try.prog 50 #[.slice al l.length cl, .int .i64 (b : Int)] w fun e w' => (∃ a1 c1 a2 c2, e = .returned (.tuple #[.slice a1 (keepB l b l.length).length c1, .slice a2 (outB b l.length).length c2]) ∧ EntsAt w' a1 (keepB l b l.length) ∧ IntsAt w' a2 (outB b l.length) ∧ (a2 = none → c2 = 0)) ∧ Below w.heap.size w w' := by
  go_enter Try.func50, Try.ntmps50
  go_wp2
  go_loopw [6, 7, 8] (fun u v x wr => ∃ (k : Nat) (b1 : Option Addr) (c1 : Nat) (b2 : Option Addr) (c2 : Nat), k ≤ l.length ∧ x = .int .i64 k ∧ u = .slice b1 (keepB l b k).length c1 ∧ v = .slice b2 (outB b k).length c2 ∧ OwnL 93 3 w.heap.size wr b1 c1 (keepB l b k).length (flatE (keepB l b k)) ∧ OwnL 3 1 w.heap.size wr b2 c2 (outB b k).length ((outB b k).map (Value.int .i64)) ∧ Apart b1 b2 ∧ Below w.heap.size w wr) (fun _ _ x _ => l.length - (intOf x).toNat)
  case atStart => exact ⟨0, none, 0, none, 0, Nat.zero_le _, rfl, rfl, rfl, OwnL.nil _ _ _ _, OwnL.nil _ _ _ _, Apart.none _, Below.refl _ _⟩
  case round =>
    obtain ⟨k, b1, c1, b2, c2, hk, rfl, rfl, rfl, own1, own2, hap, hw⟩ := hrel
    have hz := hw.size
    have k1 := keepB_len l b k
    have k2 := outB_len b k
    by_cases hkl : k < l.length
    · have hkI : (k : Int) < (l.length : Int) := by omega
      obtain ⟨bE, offE, rfl, hbE, e0, e1, e2⟩ := (hl.below hw) k hkl
      have hK := keepB_take l b hkl
      have hO := outB_succ b k
      obtain ⟨⟨x0, x1, x2⟩, hxe⟩ : ∃ x, l[k] = x := ⟨_, rfl⟩
      rw [hxe] at e0 e1 e2 hK
      simp only at e0 e1 e2
      clear hxe
      obtain ⟨K, hKe⟩ : ∃ K, keepB l b k = K := ⟨_, rfl⟩
      obtain ⟨O, hOe⟩ : ∃ O, outB b k = O := ⟨_, rfl⟩
      rw [hKe] at hK own1 k1 ⊢
      rw [hOe] at hO own2 k2 ⊢
      clear hKe hOe
      cases hbit : b.testBit k
      · have HK : Hid (keepB l b (k + 1) = K ++ [⟨x0, x1, x2⟩]) := Lib.hid (by rw [hK, hbit]; rfl)
        have HO : Hid (outB b (k + 1) = O) := Lib.hid (by rw [hO, hbit]; simp)
        have hm := bit_off hbit
        clear hK hO hbit
        go_wp2_with (at_builtin; refine wpList_app_lit_at el_rentries rfl _ _ rfl w.heap.size b1 K.length c1 _ rfl own1 1 1 rfl rfl (fun u hu => ?c1) ?c2 ?c3 ?c4 ?_)
        case c1 => simp at hu; rcases hu with rfl | rfl | rfl <;> rfl
        case c2 => unfold maxLen; omega
        case c3 => omega
        case c4 => omega
        intro b8 c8 w8 own8 hb8 hkeep
        obtain ⟨own28, hap8⟩ := hkeep own2 hap
        go_wp2
        go_roundw
        case rel => exact ⟨k + 1, b8, c8, b2, c2, by omega, by go_num, by rw [HK.out]; simp, by rw [HO.out], by rw [HK.out, flatE_snoc]; simpa using own8, by rw [HO.out]; exact own28, hap8, hw.trans hb8⟩
        case measure => simp [intOf]; omega
      · have HK : Hid (keepB l b (k + 1) = K) := Lib.hid (by rw [hK, hbit]; simp)
        have HO : Hid (outB b (k + 1) = O ++ [(k : Int)]) := Lib.hid (by rw [hO, hbit]; rfl)
        have hm := bit_on hbit
        clear hK hO hbit
        go_wp2_with (at_builtin; refine wpList_app_lit_at elInt rfl _ _ rfl w.heap.size b2 O.length c2 _ rfl own2 1 1 rfl rfl (fun u hu => ?c1) ?c2 ?c3 ?c4 ?_)
        case c1 => simp at hu; subst hu; rfl
        case c2 => unfold maxLen; omega
        case c3 => omega
        case c4 => omega
        intro b8 c8 w8 own8 hb8 hkeep
        obtain ⟨own18, hap8⟩ := hkeep own1 hap.symm
        go_wp2
        go_roundw
        case rel => exact ⟨k + 1, b1, c1, b8, c8, by omega, by go_num, by rw [HK.out], by rw [HO.out]; simp, by rw [HK.out]; exact own18, by rw [HO.out, List.map_append]; simpa using own8, hap8.symm, hw.trans hb8⟩
        case measure => simp [intOf]; omega
    · obtain rfl : k = l.length := by omega
      have i2 := own2.ints.1
      have i1 := own1.ents
      have n2 : b2 = none → c2 = 0 := fun h => by subst h; exact own2.isnil.2
      go_wp2
      go_ret2
      exact ⟨⟨b1, c1, b2, c2, rfl, i1, i2, n2⟩, hw⟩
end Go.Proofs.Ytfclemnkcpadpaa

namespace Go.Proofs.Ytfclemnkcpadpaa
set_option linter.unusedVariables false
set_option linter.unusedSimpArgs false
set_option linter.unnecessarySimpa false
open Go.RowKit Go.Flow Go.Shelf

theorem tryF_len (p : Post) (l : List Ent) : ∀ k, (tryF p l k).length ≤ l.length
  | 0 => outB_len _ _
  | k + 1 => by
    rw [tryF]
    split
    · exact outB_len _ _
    · exact tryF_len p l k
theorem tryF_succ (p : Post) (l : List Ent) (b : Nat) : tryF p l (b + 1) = if lessB (outB b l.length) (tryF p l b) && explB p (keepB l b l.length) then outB b l.length else tryF p l b := rfl
def RetSl (l : List Int) (e : Ending) (w' : World) : Prop := ∃ a c, e = .returned (.slice a l.length c) ∧ IntsAt w' a l
theorem less_eq (a : Option Addr) (xs : List Int) (n c : Nat) (hn : Hid (xs.length = n)) (b : Option Addr) (ys : List Int) (m d : Nat) (hm : Hid (ys.length = m)) (B : Bool) (hB : Hid (lessB xs ys = B)) (w : World) (hx : IntsAt w a xs) (hy : IntsAt w b ys) (lx : n ≤ 1000) (ly : m ≤ 1000) :
    Calls Try.prog 51 #[.slice a n c, .slice b m d] w fun e w' => e = .returned (.bool B) ∧ Below w.heap.size w w' := by
  obtain ⟨rfl⟩ := hn
  obtain ⟨rfl⟩ := hm
  rw [← hB.out]
  exact less_any a xs c b ys d w hx hy (by omega) (by omega)
theorem some_eq (al : Option Addr) (l : List Ent) (cl : Nat) (b : Nat) (K : List Ent) (O : List Int) (nk no : Nat) (hK : Hid (keepB l b l.length = K)) (hO : Hid (outB b l.length = O)) (hnk : Hid (K.length = nk)) (hno : Hid (O.length = no)) (w : World) (hl : EntsAt w al l) (ll : l.length ≤ 10) (hb : b < 1024) :
    Calls Try.prog 50 #[.slice al l.length cl, .int .i64 (b : Int)] w fun e w' => (∃ a1 c1 a2 c2, e = .returned (.tuple #[.slice a1 nk c1, .slice a2 no c2]) ∧ EntsAt w' a1 K ∧ IntsAt w' a2 O ∧ (a2 = none → c2 = 0)) ∧ Below w.heap.size w w' := by
  rw [← hnk.out, ← hno.out, ← hK.out, ← hO.out]
  exact some_any al l cl b w hl ll hb

set_option maxRecDepth 100000 in
set_option maxHeartbeats 4000000 in
theorem refOdd_any (a : Option Addr) (c : Nat) (ar : Option Addr) (cr : Nat) (p : Post) (al : Option Addr) (l : List Ent) (cl : Nat) (w : World) (hs : IntsAt w a p.sends) (hr : RoutesAt w ar p.routes) (H0 : Hid (postErr p = 0)) (hl : EntsAt w al l) (ll : l.length ≤ 8) :
    Calls Try.prog 43 #[.agg #[.slice a p.sends.length c, .slice ar p.routes.length cr, .int .i64 p.pat], .slice al l.length cl] w fun e w' => RetSl (oddF p l) e w' ∧ Below w.heap.size w w' := by
  have Ht := Lib.hid (tryF_odd H0.out l)
  obtain ⟨W1, hW1⟩ : ∃ z : World, z = w.alloc (.cells #[.slice a p.sends.length c, .slice ar p.routes.length cr, .int .i64 p.pat] 25) := ⟨_, rfl⟩
  have C1 : Cells W1 w.heap.size #[.slice a p.sends.length c, .slice ar p.routes.length cr, .int .i64 p.pat] 25 := by rw [hW1]; exact Cells.new _ _ _
  have t1 : Below w.heap.size w W1 := by rw [hW1]; exact (Below.refl _ _).alloc (Nat.le_refl _) _
  have h256 : 2 ^ l.length ≤ 256 := by
    have := Nat.pow_le_pow_right (n := 2) (by omega) ll
    exact this
  have hpos := Nat.two_pow_pos l.length
  obtain ⟨M, hM⟩ : ∃ M : Nat, 2 ^ l.length = M := ⟨_, rfl⟩
  have hMI : wrap64 (2 ^ l.length) = (M : Int) := by
    rw [show (2 : Int) ^ l.length = (M : Int) by rw [← hM]; simp]
    exact IntWalk.wrap64_in _ (by omega)
  rw [hM] at h256 hpos Ht
  have hMM : Hid ((M : Int) - 1 = ((M - 1 : Nat) : Int)) := Lib.hid (by omega)
  have hz : tryF p l 0 = outB (M - 1) l.length := by rw [← hM]; rfl
  have Hlen := Lib.hid (tryF_len p l)
  obtain ⟨K0, hK0⟩ : ∃ K, keepB l (M - 1) l.length = K := ⟨_, rfl⟩
  obtain ⟨nk0, hnk0⟩ : ∃ n, K0.length = n := ⟨_, rfl⟩
  obtain ⟨T0, hT0⟩ : ∃ O, tryF p l 0 = O := ⟨_, rfl⟩
  obtain ⟨no0, hno0⟩ : ∃ n, T0.length = n := ⟨_, rfl⟩
  have HK0 := Lib.hid hK0
  have Hnk0 := Lib.hid hnk0
  have HT0 := Lib.hid hT0
  have Hno0 := Lib.hid hno0
  have HO0 : Hid (outB (M - 1) l.length = T0) := Lib.hid (by rw [← hz, hT0])
  clear hM hz hK0 hnk0 hT0 hno0
  have hM1 : M - 1 < 1024 := by omega
  go_enter Try.func43, Try.ntmps43
  go_wp2_with fail
  rw [← hW1, hMM.out]
  clear hW1
  go_at_call 50
  refine (some_eq al l cl (M - 1) K0 T0 nk0 no0 HK0 HO0 Hnk0 Hno0 _ (hl.below t1) (by omega) hM1).mono ?_
  rintro e w2 ⟨⟨a1, c1, a2, c2, rfl, _, i2, _⟩, b2⟩
  have t2 := t1.trans (b2.mono t1.size)
  have C2 := C1.below b2
  clear b2 t1 C1
  go_wp2_with fail
  go_loopw [6, 7] (fun v u wr => ∃ (b : Nat) (T : List Int) (a' : Option Addr) (c' : Nat), b ≤ M ∧ u = .int .i64 b ∧ tryF p l b = T ∧ v = .slice a' T.length c' ∧ IntsAt wr a' T ∧ Below w2.heap.size w2 wr) (fun _ u _ => M - (intOf u).toNat)
  case atStart => exact ⟨0, T0, a2, c2, Nat.zero_le _, rfl, HT0.out, by rw [Hno0.out], i2, Below.refl _ _⟩
  case round =>
    obtain ⟨b, T, a', c', hb, rfl, hT, rfl, iT, hw⟩ := hrel
    have tw := t2.trans (hw.mono t2.size)
    have HT := Lib.hid hT
    have lT : T.length ≤ 8 := by rw [← hT]; have := Hlen.out b; omega
    clear i2 hT
    have q0 := (C2.below hw).cell 0
    have q1 := (C2.below hw).cell 1
    have q2 := (C2.below hw).cell 2
    have lC := (C2.below hw).lt
    simp at q0 q1 q2
    by_cases hbM : b < M
    · have hbI : (b : Int) < (M : Int) := by omega
      obtain ⟨K, hK⟩ : ∃ K, keepB l b l.length = K := ⟨_, rfl⟩
      obtain ⟨O, hO⟩ : ∃ O, outB b l.length = O := ⟨_, rfl⟩
      have hs1 := tryF_succ p l b
      rw [hK, hO, HT.out] at hs1
      have lK : K.length ≤ 8 := by rw [← hK]; have := keepB_len l b l.length; omega
      have lO : O.length ≤ 8 := by rw [← hO]; have := outB_len b l.length; omega
      obtain ⟨nk, hnk⟩ : ∃ n, K.length = n := ⟨_, rfl⟩
      obtain ⟨no, hno⟩ : ∃ n, O.length = n := ⟨_, rfl⟩
      obtain ⟨nt, hnt⟩ : ∃ n, T.length = n := ⟨_, rfl⟩
      rw [hnk] at lK
      rw [hno] at lO
      rw [hnt] at lT ⊢
      have HK := Lib.hid hK
      have HO := Lib.hid hO
      have Hnk := Lib.hid hnk
      have Hno := Lib.hid hno
      have Hnt := Lib.hid hnt
      obtain ⟨L, hL⟩ : ∃ L, lessB O T = L := ⟨_, rfl⟩
      obtain ⟨X, hX⟩ : ∃ X, explB p K = X := ⟨_, rfl⟩
      rw [hL, hX] at hs1
      have HL := Lib.hid hL
      have HX := Lib.hid hX
      have Hs1 := Lib.hid hs1
      clear hK hO hnk hno hnt hL hX hs1
      go_wp2_with fail
      go_at_call 50
      refine (some_eq al l cl b K O nk no HK HO Hnk Hno _ (hl.below tw) (by omega) (by omega)).mono ?_
      rintro e x1 ⟨⟨a3, c3, a4, c4, rfl, k3, o4, _⟩, b1⟩
      have iT1 := iT.below b1
      have r0 := below_cell b1 q0
      have r1 := below_cell b1 q1
      have r2 := below_cell b1 q2
      have lC1 := cell_ltK r0
      go_wp2_with fail
      go_at_call 51
      refine (less_eq a4 O no c4 Hno a' T nt c' Hnt L HL _ o4 iT1 (by omega) (by omega)).mono ?_
      rintro e x2 ⟨rfl, b2⟩
      replace r0 := below_cell b2 r0
      replace r1 := below_cell b2 r1
      replace r2 := below_cell b2 r2
      replace lC1 := cell_ltK r0
      have k4 := k3.below b2
      have o5 := o4.below b2
      have iT2 := iT1.below b2
      have j2 := b1.trans (b2.mono b1.size)
      cases L
      · have Hn : Hid (tryF p l (b + 1) = T) := Lib.hid (by rw [Hs1.out]; rfl)
        go_wp2_with fail
        go_roundw
        case rel => exact ⟨b + 1, T, a', c', by omega, by go_num, Hn.out, by rw [Hnt.out], iT2, hw.trans (j2.mono hw.size)⟩
        case measure => simp [intOf]; omega
      · go_wp2_with fail
        go_at_call 54
        have tz2 := tw.trans (j2.mono tw.size)
        rw [← Hnk.out]
        refine (explained_eq a c ar cr p a3 K c3 _ X HX (hs.below (by (repeat (first | exact Below.refl _ _ | refine Below.alloc ?_ (by first | omega | (simp; done) | (simp; omega)) _ | refine Below.drew ?_ | refine Below.setCell ?_ (by first | omega | (simp; done) | (simp; omega)) _ | refine Below.trans ?_ (Below.mono (by assumption) (by first | omega | (simp; done) | (simp; omega))))))) (hr.below (by (repeat (first | exact Below.refl _ _ | refine Below.alloc ?_ (by first | omega | (simp; done) | (simp; omega)) _ | refine Below.drew ?_ | refine Below.setCell ?_ (by first | omega | (simp; done) | (simp; omega)) _ | refine Below.trans ?_ (Below.mono (by assumption) (by first | omega | (simp; done) | (simp; omega))))))) H0 k4 (by rw [Hnk.out]; omega)).mono ?_
        rintro e x3 ⟨rfl, b3⟩
        have j3 := j2.trans (b3.mono j2.size)
        cases X
        · have Hn : Hid (tryF p l (b + 1) = T) := Lib.hid (by rw [Hs1.out]; rfl)
          go_wp2_with fail
          go_roundw
          case rel => exact ⟨b + 1, T, a', c', by omega, by go_num, Hn.out, by rw [Hnt.out], iT2.below b3, hw.trans (j3.mono hw.size)⟩
          case measure => simp [intOf]; omega
        · have Hn : Hid (tryF p l (b + 1) = O) := Lib.hid (by rw [Hs1.out]; rfl)
          go_wp2_with fail
          go_roundw
          case rel => exact ⟨b + 1, O, a4, c4, by omega, by go_num, Hn.out, by rw [Hno.out], o5.below b3, hw.trans (j3.mono hw.size)⟩
          case measure => simp [intOf]; omega
    · obtain rfl : b = M := by omega
      have hbI : ¬ ((b : Int) < (b : Int)) := by omega
      obtain rfl : T = oddF p l := by rw [← HT.out, Ht.out]
      go_wp2_with fail
      go_ret
      exact ⟨⟨a', c', rfl, iT⟩, tw⟩
end Go.Proofs.Ytfclemnkcpadpaa

namespace Go.Proofs.Ytfclemnkcpadpaa
set_option linter.unusedVariables false
set_option linter.unusedSimpArgs false
set_option linter.unnecessarySimpa false
open Go.RowKit Go.Flow

theorem expl_iff {p : Post} (h0 : postErr p = 0) (l : List Ent) : explB p l = true ↔ ∃ f : Nat, finS p l p.sends.length f = true := by
  rw [← finS_search h0 l p.sends.length 0 (by omega)]
  unfold explB searchF
  constructor
  · intro h; exact ⟨0, rfl, h⟩
  · rintro ⟨f, hf, h⟩
    have : f = 0 := of_decide_eq_true hf
    subst this
    exact h
theorem finT_other {p : Post} {k j : Nat} {at_ : Int} {sk : Bool} (hj : j ≠ k) (a b : Nat) : finT p [⟨(k : Int), at_, sk⟩] j a b = true := by
  unfold finT fitsB wrongB
  simp; omega
theorem finT_nil (p : Post) (j a b : Nat) : finT p [] j a b = true := rfl
theorem finS_low {p : Post} {k : Nat} {at_ : Int} {sk : Bool} : ∀ j, j ≤ k → finS p [⟨(k : Int), at_, sk⟩] j = finS p [] j
  | 0, _ => rfl
  | j + 1, hj => by
    funext n
    rw [Bool.eq_iff_iff]
    show rowG _ _ _ _ _ n = true ↔ rowG _ _ _ _ _ n = true
    rw [rowG_iff, rowG_iff, finS_low j (by omega)]
    constructor
    · rintro ⟨x, y, h1, h2, h3, h4, _, h6⟩; exact ⟨x, y, h1, h2, h3, h4, finT_nil _ _ _ _, h6⟩
    · rintro ⟨x, y, h1, h2, h3, h4, _, h6⟩; exact ⟨x, y, h1, h2, h3, h4, finT_other (by omega) _ _, h6⟩
theorem finS_back {p : Post} (l : List Ent) {j : Nat} (h : ∃ f, finS p l (j + 1) f = true) : ∃ f, finS p l j f = true := by
  obtain ⟨f, hf⟩ := h
  obtain ⟨x, y, _, _, h3, _⟩ := rowG_iff.1 (show rowG _ _ _ _ _ f = true from hf)
  exact ⟨x, h3⟩
theorem finS_backs {p : Post} (l : List Ent) (j : Nat) : ∀ d, (∃ f, finS p l (j + d) f = true) → ∃ f, finS p l j f = true
  | 0, h => h
  | d + 1, h => finS_backs l j d (finS_back l h)
theorem finS_on {p : Post} (h0 : postErr p = 0) {l : List Ent} {j : Nat} (hj : j < p.sends.length) (hT : ∀ a b, finT p l j a b = true) (h : ∃ f, finS p l j f = true) : ∃ f, finS p l (j + 1) f = true := by
  obtain ⟨f, hf⟩ := h
  obtain ⟨e, e1, _, e3, _⟩ := earliest_spec h0 hj
  have := finS_le h0 l j (by omega) f hf
  exact ⟨_, rowG_iff.2 ⟨f, e, by omega, by omega, hf, by rw [comF_can h0 hj e1]; exact e3, hT _ _, rfl⟩⟩
theorem finS_ons {p : Post} (h0 : postErr p = 0) {k : Nat} {at_ : Int} {sk : Bool} : ∀ d, k + 1 + d ≤ p.sends.length → (∃ f, finS p [⟨(k : Int), at_, sk⟩] (k + 1) f = true) → ∃ f, finS p [⟨(k : Int), at_, sk⟩] (k + 1 + d) f = true
  | 0, _, h => h
  | d + 1, hd, h => by
    have hne : k + 1 + d ≠ k := by omega
    exact finS_on h0 (show k + 1 + d < p.sends.length by omega) (fun a b => finT_other hne a b) (finS_ons h0 d (by omega) h)
theorem one_reach {p : Post} (h0 : postErr p = 0) {k : Nat} (hk : k < p.sends.length) (n : Nat) : (explB p [⟨(k : Int), (n : Int), false⟩] = true ∨ explB p [⟨(k : Int), (n : Int), true⟩] = true) ↔ finS p [] (k + 1) n = true := by
  have fwd : ∀ sk, explB p [⟨(k : Int), (n : Int), sk⟩] = true → finS p [] (k + 1) n = true := by
    intro sk h
    have h1 := (expl_iff h0 _).1 h
    obtain ⟨f, hf⟩ := finS_backs [⟨(k : Int), (n : Int), sk⟩] (k + 1) (p.sends.length - (k + 1)) (by rw [show k + 1 + (p.sends.length - (k + 1)) = p.sends.length by omega]; exact h1)
    obtain ⟨x, y, g1, g2, g3, g4, g5, g6⟩ := rowG_iff.1 (show rowG _ _ _ _ _ f = true from hf)
    rw [finS_low k (Nat.le_refl _)] at g3
    have hat : (recvF p k x y).at_ = (n : Int) := by
      unfold finT fitsB wrongB entNe at g5
      simp at g5
      exact g5.1.2.symm
    have : f = n := by
      rw [← g6]; unfold finM; rw [hat]; rfl
    subst this
    exact rowG_iff.2 ⟨x, y, g1, g2, g3, g4, finT_nil _ _ _ _, g6⟩
  constructor
  · rintro (h | h)
    · exact fwd false h
    · exact fwd true h
  · intro h
    obtain ⟨x, y, g1, g2, g3, g4, _, g6⟩ := rowG_iff.1 (show rowG _ _ _ _ _ n = true from h)
    have key : explB p [⟨(k : Int), (n : Int), (recvF p k x y).skip⟩] = true := by
      rw [expl_iff h0, show p.sends.length = k + 1 + (p.sends.length - (k + 1)) by omega]
      refine finS_ons h0 _ (by omega) ⟨n, rowG_iff.2 ⟨x, y, g1, g2, by rw [finS_low k (Nat.le_refl _)]; exact g3, g4, ?_, g6⟩⟩
      have hat : (recvF p k x y).at_ = (n : Int) := by rw [recv_nat, g6]
      have hnum : (recvF p k x y).num = (k : Int) := rfl
      unfold finT fitsB wrongB entNe
      simp [hat, hnum]
    cases hs : (recvF p k x y).skip
    · rw [hs] at key; exact Or.inl key
    · rw [hs] at key; exact Or.inr key
end Go.Proofs.Ytfclemnkcpadpaa
