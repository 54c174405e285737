/- copies' reference: Less, EntriesFault, Explained; the law's booked · copies, plain: Finishes has an hour just when the search finds hours · copies' reference: Some, Explained, Odd; the law's booked · copies' reference: Odd · copies, plain: the ends of spans are reached by one entry · copies, plain: all hours later by the same number · the laws' truths chosen by words: word, picked, Picked · Picked: a truth chosen by words · copies, plain: truths that fit; more patience · words as an argument; contracts for truths chosen by words · Noted: entries of a truth's journal chosen by words (no bits) · a truth's journal is explained, lies in the spans · own lists of the reference's types; contracts for posts whose lengths are named -/
import Derived.Test.YtfclemnkcpadpaaRq
import Derived.Test.YtfclemnkcpadpaaPg
import Derived.Test.YtfclemnkcpadpaaRg
import Derived.Test.YtfclemnkcpadpaaCep
import Derived.Test.YtfclemnkcpadpaaRh
import Derived.Test.YtfclemnkcpadpaaPa
import Derived.Test.YtfclemnkcpadpaaRi
import Derived.Test.YtfclemnkcpadpaaRj
import Derived.Test.YtfclemnkcpadpaaPc
import Derived.Test.YtfclemnkcpadpaaLf
import Derived.Test.YtfclemnkcpadpaaSa
namespace Go.Proofs.Ytfclemnkcpadpaa
set_option linter.unusedVariables false
set_option linter.unusedSimpArgs false
set_option linter.unnecessarySimpa false
open Go.RowKit Go.Flow Go.Shelf

theorem lexB_drop {a b : List Int} {k : Nat} (h1 : k < a.length) (h2 : k < b.length) : lexB (a.drop k) (b.drop k) = if a[k] = b[k] then lexB (a.drop (k + 1)) (b.drop (k + 1)) else decide (a[k] < b[k]) := by
  rw [List.drop_eq_getElem_cons h1, List.drop_eq_getElem_cons h2]; rfl
theorem lexB_end (a b : List Int) {k : Nat} (h1 : a.length ≤ k) : lexB (a.drop k) (b.drop k) = false := by
  rw [List.drop_of_length_le h1]; rfl

set_option maxHeartbeats 2000000 in
theorem less_any (a : Option Addr) (xs : List Int) (c : Nat) (b : Option Addr) (ys : List Int) (d : Nat) (w : World) (hx : IntsAt w a xs) (hy : IntsAt w b ys) (lx : xs.length ≤ 1000000) (ly : ys.length ≤ 1000000) :
    Calls Try.prog 51 #[.slice a xs.length c, .slice b ys.length d] w fun e w' => e = .returned (.bool (lessB xs ys)) ∧ Below w.heap.size w w' := by
  by_cases hl : xs.length = ys.length
  · have tl : ((xs.length : Int) == (ys.length : Int)) = true := by simp [hl]
    have tl2 : ¬ ((xs.length : Int) < (ys.length : Int)) := by omega
    have Hl := Lib.hid hl
    have He : Hid (lessB xs ys = lexB xs ys) := Lib.hid (by unfold lessB; rw [if_pos hl])
    clear hl
    go_enter Try.func51, Try.ntmps51
    go_wp2
    go_loopw [5] (fun i wr => ∃ k : Nat, k ≤ xs.length ∧ i = .int .i64 k ∧ lessB xs ys = lexB (xs.drop k) (ys.drop k) ∧ Below w.heap.size w wr) (fun i _ => xs.length - (intOf i).toNat)
    case atStart => exact ⟨0, Nat.zero_le _, rfl, He.out, Below.refl _ _⟩
    case round =>
      obtain ⟨k, hk, rfl, hpre, hwr⟩ := hrel
      have Hp := Lib.hid hpre
      clear hpre
      by_cases hlt : k < xs.length
      · have hlty : k < ys.length := by rw [← Hl.out]; exact hlt
        obtain ⟨b1, off1, rfl, hbl1, p0⟩ := (hx.below hwr) k hlt
        obtain ⟨b2, off2, rfl, hbl2, q0⟩ := (hy.below hwr) k hlty
        have hd := lexB_drop hlt hlty
        replace p0 : wr.cell? ⟨b1, off1 + k, none⟩ = some (.int .i64 xs[k]) := p0.trans (by simp [hlt])
        replace q0 : wr.cell? ⟨b2, off2 + k, none⟩ = some (.int .i64 ys[k]) := q0.trans (by simp [hlty])
        obtain ⟨x, hxe⟩ : ∃ x, xs[k] = x := ⟨_, rfl⟩
        obtain ⟨y, hye⟩ : ∃ y, ys[k] = y := ⟨_, rfl⟩
        rw [hxe] at p0 hd
        rw [hye] at q0 hd
        have l1 : (k : Int) < (xs.length : Int) := by omega
        have l2 : (k : Int) < (ys.length : Int) := by omega
        clear hxe hye
        by_cases e0 : x = y
        · have t0 : (x != y) = false := by simp [e0]
          have Hn : Hid (lessB xs ys = lexB (xs.drop (k + 1)) (ys.drop (k + 1))) := Lib.hid (by rw [Hp.out, hd, if_pos e0])
          clear e0 hd
          go_wp2
          (refine wp_region_ext 9 (by kernel_rfl) (by kernel_rfl) ?_; simp only [List.take_succ_cons, List.take_zero, List.drop_succ_cons, List.drop_zero]; (repeat (go_big_quiet_step ((fail)))); refine wpQuiet_nil ?_; rintro _ ⟨ex, rfl⟩; have hex := ex.below; have hexz := ex.size; (try simp at hexz); (try (have hy0 : w.heap.size < ex.to.heap.size := by omega)); (try (have hy1 : w.heap.size + 1 < ex.to.heap.size := by omega)); (try (have hy2 : w.heap.size + 2 < ex.to.heap.size := by omega)))
          go_wp2
          go_roundw
          case rel => exact ⟨k + 1, by omega, by go_num, Hn.out, hwr.trans (ex.below.mono hwr.size)⟩
          case measure => simp [intOf]; omega
        · have t0 : (x != y) = true := by simp [e0]
          have Hn : Hid (lessB xs ys = decide (x < y)) := Lib.hid (by rw [Hp.out, hd, if_neg e0])
          clear e0 hd
          go_wp2
          (refine wp_region_ext 9 (by kernel_rfl) (by kernel_rfl) ?_; simp only [List.take_succ_cons, List.take_zero, List.drop_succ_cons, List.drop_zero]; (repeat (go_big_quiet_step ((fail)))); refine wpQuiet_nil ?_; rintro _ ⟨ex, rfl⟩; have hex := ex.below; have hexz := ex.size; (try simp at hexz); (try (have hy0 : w.heap.size < ex.to.heap.size := by omega)); (try (have hy1 : w.heap.size + 1 < ex.to.heap.size := by omega)); (try (have hy2 : w.heap.size + 2 < ex.to.heap.size := by omega)))
          have p1 := below_cell ex.below p0
          have q1 := below_cell ex.below q0
          have hb1' := cell_ltK p1
          have hb2' := cell_ltK q1
          obtain ⟨V, hV⟩ : ∃ z : World, z = ex.to := ⟨_, rfl⟩
          have jV : Below wr.heap.size wr V := by rw [hV]; exact ex.below
          rw [← hV] at p1 q1 hb1' hb2' ⊢
          clear hV hex hexz ex
          go_wp2
          (refine wp_region_ext 9 (by kernel_rfl) (by kernel_rfl) ?_; simp only [List.take_succ_cons, List.take_zero, List.drop_succ_cons, List.drop_zero]; (repeat (go_big_quiet_step ((fail)))); refine wpQuiet_nil ?_; rintro _ ⟨ex, rfl⟩; have hex := ex.below; have hexz := ex.size; (try simp at hexz); (try (have hy0 : w.heap.size < ex.to.heap.size := by omega)); (try (have hy1 : w.heap.size + 1 < ex.to.heap.size := by omega)); (try (have hy2 : w.heap.size + 2 < ex.to.heap.size := by omega)))
          go_wp2
          go_ret
          rw [Hn.out]
          exact ⟨rfl, hwr.trans ((jV.trans (ex.below.mono jV.size)).mono hwr.size)⟩
      · obtain rfl : k = xs.length := by omega
        have Hn : Hid (lessB xs ys = false) := Lib.hid (by rw [Hp.out, lexB_end _ _ (Nat.le_refl _)])
        go_wp2
        go_ret
        exact ⟨ret_b (by rw [Hn.out, decide_eq_false]; have := Hl.out; omega), hwr⟩
  · have tl : ((xs.length : Int) == (ys.length : Int)) = false := by simp; omega
    have He : Hid (lessB xs ys = decide (xs.length < ys.length)) := Lib.hid (by unfold lessB; rw [if_neg hl])
    clear hl
    have hc : decide ((xs.length : Int) < (ys.length : Int)) = decide (xs.length < ys.length) := by simp
    go_enter Try.func51, Try.ntmps51
    by_cases h0 : 0 < xs.length
    · have h0' : (0 : Int) < (xs.length : Int) := by omega
      go_wp2
      go_loopw [5] (fun i wr => i = .int .i64 0 ∧ wr = w) (fun i _ => 0)
      case atStart => exact ⟨rfl, rfl⟩
      case round =>
        obtain ⟨rfl, rfl⟩ := hrel
        go_wp2
        go_ret
        rw [He.out, ← hc]
        exact ⟨rfl, Below.refl _ _⟩
    · have h0' : ¬ ((0 : Int) < (xs.length : Int)) := by omega
      go_wp2
      go_loopw [5] (fun i wr => i = .int .i64 0 ∧ wr = w) (fun i _ => 0)
      case atStart => exact ⟨rfl, rfl⟩
      case round =>
        obtain ⟨rfl, rfl⟩ := hrel
        go_wp2
        go_ret
        rw [He.out, ← hc]
        exact ⟨rfl, Below.refl _ _⟩

def entsErr (n : Nat) (l : List Ent) : Int := if 8 < l.length then 3 else if l.all (entOk n) then 0 else 2
theorem entsErr_bd (n : Nat) (l : List Ent) : 0 ≤ entsErr n l ∧ entsErr n l ≤ 3 := by unfold entsErr; (repeat' split) <;> omega
set_option maxHeartbeats 2000000 in
theorem entriesFault_any (a : Option Addr) (c : Nat) (ar : Option Addr) (cr : Nat) (p : Post) (al : Option Addr) (l : List Ent) (cl : Nat) (w : World) (hl : EntsAt w al l) (ll : l.length ≤ 1000000) (ls : p.sends.length ≤ 1000000) :
    Calls Try.prog 83 #[.agg #[.slice a p.sends.length c, .slice ar p.routes.length cr, .int .i64 p.pat], .slice al l.length cl] w fun e w' => e = .returned (.int .i64 (entsErr p.sends.length l)) ∧ Below w.heap.size w w' := by
  obtain ⟨W1, hW1⟩ : ∃ z : World, z = w.alloc (.cells #[.slice a p.sends.length c, .slice ar p.routes.length cr, .int .i64 p.pat] 25) := ⟨_, rfl⟩
  have C0 : Cells W1 w.heap.size #[.slice a p.sends.length c, .slice ar p.routes.length cr, .int .i64 p.pat] 25 := by rw [hW1]; exact Cells.new _ _ _
  have t0 : Below w.heap.size w W1 := by rw [hW1]; exact (Below.refl _ _).alloc (Nat.le_refl _) _
  have hws : IntKind.i64.wrap ((p.sends.length : Int) - 1) = (p.sends.length : Int) - 1 := IntWalk.i64_in _ (by omega)
  by_cases h8 : 8 < l.length
  · have h8I : (8 : Int) < (l.length : Int) := by omega
    have He : Hid (entsErr p.sends.length l = 3) := Lib.hid (by unfold entsErr; rw [if_pos h8])
    go_enter Try.func83, Try.ntmps83
    go_wp2
    rw [← hW1]
    go_ret
    rw [He.out]
    exact ⟨rfl, t0⟩
  · have h8I : ¬ ((8 : Int) < (l.length : Int)) := by omega
    have He : Hid (entsErr p.sends.length l = if l.all (entOk p.sends.length) then 0 else 2) := Lib.hid (by unfold entsErr; rw [if_neg h8])
    go_enter Try.func83, Try.ntmps83
    go_wp2
    rw [← hW1]
    clear hW1
    go_loopw [5] (fun i wr => ∃ k : Nat, k ≤ l.length ∧ i = .int .i64 k ∧ (l.take k).all (entOk p.sends.length) = true ∧ Below W1.heap.size W1 wr) (fun i _ => l.length - (intOf i).toNat)
    case atStart => exact ⟨0, Nat.zero_le _, rfl, rfl, Below.refl _ _⟩
    case round =>
      obtain ⟨k, hk, rfl, hpre, hwr⟩ := hrel
      have Hp := Lib.hid hpre
      clear hpre
      have tw := t0.trans (hwr.mono t0.size)
      have q0 := (C0.below hwr).cell 0
      have lq := (C0.below hwr).lt
      simp at q0
      by_cases hlt : k < l.length
      · have hlI : (k : Int) < (l.length : Int) := by omega
        obtain ⟨b, off, rfl, hbl, z0, z1, z2⟩ := (hl.below tw) k hlt
        have Hok : Hid (entOk p.sends.length l[k] = (inR l[k].num (0, (p.sends.length : Int) - 1) && inR l[k].at_ (0, 100))) := Lib.hid rfl
        have Ht := Lib.hid (fun h => all_take_succ (p := entOk p.sends.length) hlt Hp.out h)
        have Hf := Lib.hid (fun h => all_false_at (p := entOk p.sends.length) hlt h)
        obtain ⟨⟨x, y, z⟩, hxe⟩ : ∃ x, l[k] = x := ⟨_, rfl⟩
        rw [hxe] at z0 z1 z2 Ht Hf Hok
        simp only at z0 z1 z2 Hok
        clear hxe
        cases h1 : inR x (0, (p.sends.length : Int) - 1)
        · have Hn : Hid (entsErr p.sends.length l = 2) := Lib.hid (by rw [He.out, Hf.out (by rw [Hok.out, h1]; rfl)]; rfl)
          go_wp2
          (refine wp_region_ext 20 (by kernel_rfl) (by kernel_rfl) ?_; simp only [List.take_succ_cons, List.take_zero, List.drop_succ_cons, List.drop_zero]; (repeat (go_big_quiet_step (((go_at_call 29; first | refine Calls_ext_same (refIn_any x 0 _ _)))))); refine wpQuiet_nil ?_; rintro _ ⟨ex, rfl⟩; have hex := ex.below; have hexz := ex.size; (try simp at hexz); (try (have hy0 : w.heap.size < ex.to.heap.size := by omega)); (try (have hy1 : w.heap.size + 1 < ex.to.heap.size := by omega)); (try (have hy2 : w.heap.size + 2 < ex.to.heap.size := by omega)))
          go_wp2
          go_ret
          rw [Hn.out]
          exact ⟨rfl, tw.trans (ex.below.mono tw.size)⟩
        · cases h2 : inR y (0, 100)
          · have Hn : Hid (entsErr p.sends.length l = 2) := Lib.hid (by rw [He.out, Hf.out (by rw [Hok.out, h1, h2]; rfl)]; rfl)
            go_wp2
            (refine wp_region_ext 20 (by kernel_rfl) (by kernel_rfl) ?_; simp only [List.take_succ_cons, List.take_zero, List.drop_succ_cons, List.drop_zero]; (repeat (go_big_quiet_step (((go_at_call 29; first | (with_reducible refine Calls_ext_same (refIn_any x 0 _ _)) | (with_reducible refine Calls_ext_same (refIn_any y 0 _ _))))))); refine wpQuiet_nil ?_; rintro _ ⟨ex, rfl⟩; have hex := ex.below; have hexz := ex.size; (try simp at hexz); (try (have hy0 : w.heap.size < ex.to.heap.size := by omega)); (try (have hy1 : w.heap.size + 1 < ex.to.heap.size := by omega)); (try (have hy2 : w.heap.size + 2 < ex.to.heap.size := by omega)))
            go_wp2
            go_ret
            rw [Hn.out]
            exact ⟨rfl, tw.trans (ex.below.mono tw.size)⟩
          · have Hn := Lib.hid (Ht.out (by rw [Hok.out, h1, h2]; rfl))
            go_wp2
            (refine wp_region_ext 20 (by kernel_rfl) (by kernel_rfl) ?_; simp only [List.take_succ_cons, List.take_zero, List.drop_succ_cons, List.drop_zero]; (repeat (go_big_quiet_step (((go_at_call 29; first | (with_reducible refine Calls_ext_same (refIn_any x 0 _ _)) | (with_reducible refine Calls_ext_same (refIn_any y 0 _ _))))))); refine wpQuiet_nil ?_; rintro _ ⟨ex, rfl⟩; have hex := ex.below; have hexz := ex.size; (try simp at hexz); (try (have hy0 : w.heap.size < ex.to.heap.size := by omega)); (try (have hy1 : w.heap.size + 1 < ex.to.heap.size := by omega)); (try (have hy2 : w.heap.size + 2 < ex.to.heap.size := by omega)))
            go_wp2
            go_roundw
            case rel => exact ⟨k + 1, by omega, by go_num, Hn.out, hwr.trans (ex.below.mono hwr.size)⟩
            case measure => simp [intOf]; omega
      · obtain rfl : k = l.length := by omega
        have Hn : Hid (entsErr p.sends.length l = 0) := Lib.hid (by rw [He.out, all_of_take (Nat.le_refl _) Hp.out]; rfl)
        go_wp2
        go_ret
        rw [Hn.out]
        exact ⟨rfl, tw⟩
end Go.Proofs.Ytfclemnkcpadpaa

namespace Go.Proofs.Ytfclemnkcpadpaa
set_option linter.unusedVariables false
set_option linter.unusedSimpArgs false
set_option linter.unnecessarySimpa false
open Go.RowKit Go.Flow Go.Shelf

theorem endsN_any (F : Hrs) : ∀ n, 0 ≤ (endsN F n).2 ↔ ∃ k, k < n ∧ F k = true
  | 0 => by simp [endsN]
  | n + 1 => by
    have ih := endsN_any F n
    cases h : F n
    · rw [endsN_no h, ih]
      constructor
      · rintro ⟨k, h1, h2⟩; exact ⟨k, by omega, h2⟩
      · rintro ⟨k, h1, h2⟩
        refine ⟨k, ?_, h2⟩
        rcases Nat.lt_or_eq_of_le (Nat.lt_succ_iff.1 h1) with h3 | h3
        · exact h3
        · rw [h3, h] at h2; cases h2
    · rw [endsN_yes h]
      constructor
      · intro _; exact ⟨n, by omega, h⟩
      · intro _; show (0 : Int) ≤ (n : Int); omega
theorem nextR_iff {p : Post} {l : List Ent} {r i : Nat} {f : Int} : (nextR p l (r + 1) i f).isSome = true ↔ ∃ h : Nat, h < 102 ∧ canB p i h = true ∧ fitsB l (recvF p i f h) i = true ∧ (nextR p l r (i + 1) (recvF p i f h).at_).isSome = true := by
  rw [nextR, List.findSome?_isSome_iff]
  simp only [List.mem_range]
  constructor
  · rintro ⟨h, hh, hx⟩
    by_cases hc : (canB p i h && fitsB l (recvF p i f h) i) = true
    · rw [if_pos hc, Option.isSome_map] at hx
      rw [Bool.and_eq_true] at hc
      exact ⟨h, hh, hc.1, hc.2, hx⟩
    · rw [if_neg hc] at hx; cases hx
  · rintro ⟨h, hh, h1, h2, hx⟩
    refine ⟨h, hh, ?_⟩
    rw [if_pos (by rw [h1, h2]; rfl), Option.isSome_map]
    exact hx
theorem recv_nat (p : Post) (i f h : Nat) : (recvF p i f h).at_ = (finM p i f h : Int) := by
  unfold finM recvF
  simp only
  omega
theorem finS_le {p : Post} (h0 : postErr p = 0) (l : List Ent) : ∀ k, k ≤ p.sends.length → ∀ n, finS p l k n = true → n ≤ 60
  | 0, _, n, hn => by
    have : n = 0 := of_decide_eq_true hn
    omega
  | k + 1, hk, n, hn => by
    obtain ⟨x, y, hx, hy, hf, hg, _, rfl⟩ := rowG_iff.1 hn
    have := finS_le h0 l k (by omega) x hf
    have := finM_eq p (k := k) (a := x) (b := y)
    have := dead_bd h0 (k := k) (by omega)
    omega
theorem finS_next {p : Post} (h0 : postErr p = 0) (l : List Ent) {i r : Nat} (hir : i + (r + 1) = p.sends.length) : (∃ f : Nat, finS p l i f = true ∧ (nextR p l (r + 1) i f).isSome = true) ↔ ∃ f : Nat, finS p l (i + 1) f = true ∧ (nextR p l r (i + 1) f).isSome = true := by
  constructor
  · rintro ⟨f, hf, hn⟩
    obtain ⟨h, hh, h1, h2, h3⟩ := nextR_iff.1 hn
    have := finS_le h0 l i (by omega) f hf
    refine ⟨finM p i f h, rowG_iff.2 ⟨f, h, by omega, hh, hf, by rw [comF_can h0 (by omega) (by omega)]; exact h1, h2, rfl⟩, ?_⟩
    rw [← recv_nat]; exact h3
  · rintro ⟨f', hf', hn⟩
    obtain ⟨f, h, hx, hh, hf, hg, hT, rfl⟩ := rowG_iff.1 hf'
    refine ⟨f, hf, nextR_iff.2 ⟨h, hh, by rw [← comF_can h0 (by omega) (by omega)]; exact hg, hT, ?_⟩⟩
    rw [recv_nat]; exact hn
theorem finS_search {p : Post} (h0 : postErr p = 0) (l : List Ent) : ∀ r i, i + r = p.sends.length → ((∃ f : Nat, finS p l i f = true ∧ (nextR p l r i f).isSome = true) ↔ ∃ f : Nat, finS p l p.sends.length f = true)
  | 0, i, hi => by
    obtain rfl : i = p.sends.length := by omega
    constructor
    · rintro ⟨f, hf, _⟩; exact ⟨f, hf⟩
    · rintro ⟨f, hf⟩; exact ⟨f, hf, by rw [nextR]; rfl⟩
  | r + 1, i, hi => by
    rw [finS_next h0 l (by omega)]
    exact finS_search h0 l r (i + 1) (by omega)
theorem ends_expl {p : Post} (h0 : postErr p = 0) (l : List Ent) : decide (0 ≤ (endsN (finS p l p.sends.length) 102).2) = explB p l := by
  have key := finS_search h0 l p.sends.length 0 (by omega)
  rw [Bool.eq_iff_iff, decide_eq_true_eq, endsN_any]
  unfold explB searchF
  constructor
  · rintro ⟨k, _, hk⟩
    obtain ⟨f, hf, hn⟩ := key.2 ⟨k, hk⟩
    have : f = 0 := of_decide_eq_true hf
    subst this
    exact hn
  · intro hn
    obtain ⟨f, hf⟩ := key.1 ⟨0, rfl, hn⟩
    have := finS_le h0 l _ (Nat.le_refl _) f hf
    exact ⟨f, by omega, hf⟩
end Go.Proofs.Ytfclemnkcpadpaa

namespace Go.Proofs.Ytfclemnkcpadpaa
set_option linter.unusedVariables false
set_option linter.unusedSimpArgs false
set_option linter.unnecessarySimpa false
open Go.RowKit Go.Flow Go.Shelf

set_option maxHeartbeats 2000000 in
theorem booked_eq (a : Option Addr) (c : Nat) (ar : Option Addr) (cr : Nat) (p : Post) (al : Option Addr) (l : List Ent) (cl : Nat) (w : World) (E : Int) (hE : Hid (bookErr p l = E)) (hs : IntsAt w a p.sends) (hr : RoutesAt w ar p.routes) (sm : Hid (PostSmall p)) (hl : EntsAt w al l) (ll : l.length ≤ 1000000) :
    Calls Try.prog 42 #[.agg #[.slice a p.sends.length c, .slice ar p.routes.length cr, .int .i64 p.pat], .slice al l.length cl] w fun e w' => e = .returned (.int .i64 E) ∧ Below w.heap.size w w' := by
  rw [← hE.out]
  clear hE
  have lS := sm.out.1
  by_cases h0 : postErr p = 0
  · have hq : bookErr p l = entsErr p.sends.length l := by unfold bookErr entsErr; rw [if_neg (by simpa using h0)]
    rw [hq]
    have H0 := Lib.hid h0
    obtain ⟨F, hF⟩ : ∃ F, entsErr p.sends.length l = F := ⟨_, rfl⟩
    have hbd := entsErr_bd p.sends.length l
    have hef := fun X (h : EntsAt X al l) => entriesFault_any a c ar cr p al l cl X h ll (by omega)
    rw [hF] at hbd hef ⊢
    clear hq hF h0
    go_enter Try.func42, Try.ntmps42
    go_wp2_with fail
    go_at_call 24
    refine (fault_eq a c ar cr p _ 0 H0 (hs.below (by (repeat (first | exact Below.refl _ _ | refine Below.alloc ?_ (by first | omega | (simp; done) | (simp; omega)) _ | refine Below.drew ?_ | refine Below.setCell ?_ (by first | omega | (simp; done) | (simp; omega)) _ | refine Below.trans ?_ (Below.mono (by assumption) (by first | omega | (simp; done) | (simp; omega))))))) (hr.below (by (repeat (first | exact Below.refl _ _ | refine Below.alloc ?_ (by first | omega | (simp; done) | (simp; omega)) _ | refine Below.drew ?_ | refine Below.setCell ?_ (by first | omega | (simp; done) | (simp; omega)) _ | refine Below.trans ?_ (Below.mono (by assumption) (by first | omega | (simp; done) | (simp; omega))))))) sm).mono ?_
    rintro e w1 ⟨rfl, b1⟩
    have t1 : Below w.heap.size w w1 := by (repeat (first | exact Below.refl _ _ | refine Below.alloc ?_ (by first | omega | (simp; done) | (simp; omega)) _ | refine Below.drew ?_ | refine Below.setCell ?_ (by first | omega | (simp; done) | (simp; omega)) _ | refine Below.trans ?_ (Below.mono (by assumption) (by first | omega | (simp; done) | (simp; omega)))))
    have q0 := box_cells b1 0 rfl
    have q1 := box_cells b1 1 rfl
    have q2 := box_cells b1 2 rfl
    have lB := cell_ltK q0
    go_wp2_with fail
    go_at_call 83
    refine (hef _ (hl.below (by (repeat (first | exact Below.refl _ _ | refine Below.alloc ?_ (by first | omega | (simp; done) | (simp; omega)) _ | refine Below.drew ?_ | refine Below.setCell ?_ (by first | omega | (simp; done) | (simp; omega)) _ | refine Below.trans ?_ (Below.mono (by assumption) (by first | omega | (simp; done) | (simp; omega)))))))).mono ?_
    rintro e w2 ⟨rfl, b2⟩
    have j2 : Below w1.heap.size w1 w2 := by (repeat (first | exact Below.refl _ _ | refine Below.alloc ?_ (by first | omega | (simp; done) | (simp; omega)) _ | refine Below.drew ?_ | refine Below.setCell ?_ (by first | omega | (simp; done) | (simp; omega)) _ | refine Below.trans ?_ (Below.mono (by assumption) (by first | omega | (simp; done) | (simp; omega)))))
    go_wp2_with fail
    go_ret
    exact ⟨rfl, t1.trans (j2.mono t1.size)⟩
  · have hq : bookErr p l = postErr p := by unfold bookErr; rw [if_pos h0]
    rw [hq]
    obtain ⟨F, hF⟩ : ∃ F, postErr p = F := ⟨_, rfl⟩
    have hbd := postErr_bd p
    rw [hF] at h0 hbd ⊢
    have HF := Lib.hid hF
    have hne : (F != 0) = true := by simpa using h0
    clear hq hF
    go_enter Try.func42, Try.ntmps42
    go_wp2_with fail
    go_at_call 24
    refine (fault_eq a c ar cr p _ F HF (hs.below (by (repeat (first | exact Below.refl _ _ | refine Below.alloc ?_ (by first | omega | (simp; done) | (simp; omega)) _ | refine Below.drew ?_ | refine Below.setCell ?_ (by first | omega | (simp; done) | (simp; omega)) _ | refine Below.trans ?_ (Below.mono (by assumption) (by first | omega | (simp; done) | (simp; omega))))))) (hr.below (by (repeat (first | exact Below.refl _ _ | refine Below.alloc ?_ (by first | omega | (simp; done) | (simp; omega)) _ | refine Below.drew ?_ | refine Below.setCell ?_ (by first | omega | (simp; done) | (simp; omega)) _ | refine Below.trans ?_ (Below.mono (by assumption) (by first | omega | (simp; done) | (simp; omega))))))) sm).mono ?_
    rintro e w1 ⟨rfl, b1⟩
    have t1 : Below w.heap.size w w1 := by (repeat (first | exact Below.refl _ _ | refine Below.alloc ?_ (by first | omega | (simp; done) | (simp; omega)) _ | refine Below.drew ?_ | refine Below.setCell ?_ (by first | omega | (simp; done) | (simp; omega)) _ | refine Below.trans ?_ (Below.mono (by assumption) (by first | omega | (simp; done) | (simp; omega)))))
    go_wp2_with fail
    go_ret
    exact ⟨rfl, t1⟩

set_option maxRecDepth 100000 in
set_option maxHeartbeats 4000000 in
theorem explained_eq (a : Option Addr) (c : Nat) (ar : Option Addr) (cr : Nat) (p : Post) (al : Option Addr) (l : List Ent) (cl : Nat) (w : World) (B : Bool) (hB : Hid (explB p l = B)) (hs : IntsAt w a p.sends) (hr : RoutesAt w ar p.routes) (H0 : Hid (postErr p = 0)) (hl : EntsAt w al l) (ll : l.length ≤ 1000) :
    Calls Try.prog 54 #[.agg #[.slice a p.sends.length c, .slice ar p.routes.length cr, .int .i64 p.pat], .slice al l.length cl] w fun e w' => e = .returned (.bool B) ∧ Below w.heap.size w w' := by
  have lS := (postErr_ok H0.out).1
  have hne : 0 < p.sends.length := List.length_pos_iff.2 (postErr_ok H0.out).2.2.2.1
  obtain ⟨i, hi⟩ : ∃ i, p.sends.length = i + 1 := ⟨p.sends.length - 1, by omega⟩
  have hws : IntKind.i64.wrap ((p.sends.length : Int) - 1) = (i : Int) := by rw [IntWalk.i64_in _ (by omega)]; omega
  have hF := fun X (h1 : IntsAt X a p.sends) (h2 : RoutesAt X ar p.routes) (h3 : EntsAt X al l) => refFinishes_any a c ar cr p i al l cl X h1 h2 h3 ll H0.out (by omega)
  have he := ends_expl H0.out l
  rw [hi, hB.out] at he
  obtain ⟨F, hFe⟩ : ∃ F, finS p l (i + 1) = F := ⟨_, rfl⟩
  rw [hFe] at hF he
  obtain ⟨⟨lo, hi'⟩, hlh⟩ : ∃ x, endsN F 102 = x := ⟨_, rfl⟩
  rw [hlh] at he
  have HEn := Lib.hid hlh
  have He : Hid (decide (0 ≤ hi') = B) := Lib.hid he
  clear hFe hlh he hB hi
  go_enter Try.func54, Try.ntmps54
  go_wp2_with fail
  go_at_call 36
  refine (hF _ (hs.below (by (repeat (first | exact Below.refl _ _ | refine Below.alloc ?_ (by first | omega | (simp; done) | (simp; omega)) _ | refine Below.drew ?_ | refine Below.setCell ?_ (by first | omega | (simp; done) | (simp; omega)) _ | refine Below.trans ?_ (Below.mono (by assumption) (by first | omega | (simp; done) | (simp; omega))))))) (hr.below (by (repeat (first | exact Below.refl _ _ | refine Below.alloc ?_ (by first | omega | (simp; done) | (simp; omega)) _ | refine Below.drew ?_ | refine Below.setCell ?_ (by first | omega | (simp; done) | (simp; omega)) _ | refine Below.trans ?_ (Below.mono (by assumption) (by first | omega | (simp; done) | (simp; omega))))))) (hl.below (by (repeat (first | exact Below.refl _ _ | refine Below.alloc ?_ (by first | omega | (simp; done) | (simp; omega)) _ | refine Below.drew ?_ | refine Below.setCell ?_ (by first | omega | (simp; done) | (simp; omega)) _ | refine Below.trans ?_ (Below.mono (by assumption) (by first | omega | (simp; done) | (simp; omega)))))))).mono ?_
  rintro e w1 ⟨rfl, b1⟩
  have t1 : Below w.heap.size w w1 := by (repeat (first | exact Below.refl _ _ | refine Below.alloc ?_ (by first | omega | (simp; done) | (simp; omega)) _ | refine Below.drew ?_ | refine Below.setCell ?_ (by first | omega | (simp; done) | (simp; omega)) _ | refine Below.trans ?_ (Below.mono (by assumption) (by first | omega | (simp; done) | (simp; omega)))))
  go_wp2_with fail
  go_at_call 35
  refine (refEnds_eq F lo hi' HEn _).mono ?_
  rintro e w2 ⟨rfl, b2⟩
  have j2 : Below w1.heap.size w1 w2 := by (repeat (first | exact Below.refl _ _ | refine Below.alloc ?_ (by first | omega | (simp; done) | (simp; omega)) _ | refine Below.drew ?_ | refine Below.setCell ?_ (by first | omega | (simp; done) | (simp; omega)) _ | refine Below.trans ?_ (Below.mono (by assumption) (by first | omega | (simp; done) | (simp; omega)))))
  have t2 := t1.trans (j2.mono t1.size)
  rw [He.out]
  go_wp2_with fail
  go_ret
  exact ⟨rfl, t2.alloc t2.size _⟩

theorem info_rent : (Try.prog.info? 93).map (fun i => (i.zero, i.size, i.bytes)) = some (some (.agg #[.int .i64 0, .int .i64 0, .bool false]), 3, 24) := by kernel_rfl
theorem bit_off {b k : Nat} (h : b.testBit k = false) : ((b : Int) / 2 ^ k).tmod 2 = 0 := by
  rw [Nat.testBit_eq_decide_div_mod_eq] at h
  have h1 := of_decide_eq_false h
  have e : ((b : Int) / 2 ^ k) = ((b / 2 ^ k : Nat) : Int) := by simp
  rw [e]
  generalize b / 2 ^ k = q at h1
  rw [Int.tmod_eq_emod_of_nonneg (Int.natCast_nonneg q)]
  omega
theorem bit_on {b k : Nat} (h : b.testBit k = true) : ((b : Int) / 2 ^ k).tmod 2 = 1 := by
  rw [Nat.testBit_eq_decide_div_mod_eq] at h
  have h1 := of_decide_eq_true h
  have e : ((b : Int) / 2 ^ k) = ((b / 2 ^ k : Nat) : Int) := by simp
  rw [e]
  generalize b / 2 ^ k = q at h1
  rw [Int.tmod_eq_emod_of_nonneg (Int.natCast_nonneg q)]
  omega
theorem keepB_take (l : List Ent) (b : Nat) {k : Nat} (h : k < l.length) : keepB l b (k + 1) = keepB l b k ++ if b.testBit k then [] else [l[k]] := by
  rw [keepB_succ]
  congr 2
  simp [h]

set_option maxRecDepth 100000 in
set_option maxHeartbeats 4000000 in
theorem some_any (al : Option Addr) (l : List Ent) (cl : Nat) (b : Nat) (w : World) (hl : EntsAt w al l) (ll : l.length ≤ 10) (hb : b < 1024) :
    Calls Try.prog 50 #[.slice al l.length cl, .int .i64 (b : Int)] w fun e w' => (∃ a1 c1 a2 c2, e = .returned (.tuple #[.slice a1 (keepB l b l.length).length c1, .slice a2 (outB b l.length).length c2]) ∧ EntsAt w' a1 (keepB l b l.length) ∧ IntsAt w' a2 (outB b l.length) ∧ (a2 = none → c2 = 0)) ∧ Below w.heap.size w w' := by
  go_enter Try.func50, Try.ntmps50
  go_wp2
  go_loopw [6, 7, 8] (fun u v x wr => ∃ (k : Nat) (b1 : Option Addr) (c1 : Nat) (b2 : Option Addr) (c2 : Nat), k ≤ l.length ∧ x = .int .i64 k ∧ u = .slice b1 (keepB l b k).length c1 ∧ v = .slice b2 (outB b k).length c2 ∧ OwnL 93 3 w.heap.size wr b1 c1 (keepB l b k).length (flatE (keepB l b k)) ∧ OwnL 3 1 w.heap.size wr b2 c2 (outB b k).length ((outB b k).map (Value.int .i64)) ∧ Apart b1 b2 ∧ Below w.heap.size w wr) (fun _ _ x _ => l.length - (intOf x).toNat)
  case atStart => exact ⟨0, none, 0, none, 0, Nat.zero_le _, rfl, rfl, rfl, OwnL.nil _ _ _ _, OwnL.nil _ _ _ _, Apart.none _, Below.refl _ _⟩
  case round =>
    obtain ⟨k, b1, c1, b2, c2, hk, rfl, rfl, rfl, own1, own2, hap, hw⟩ := hrel
    have hz := hw.size
    have k1 := keepB_len l b k
    have k2 := outB_len b k
    by_cases hkl : k < l.length
    · have hkI : (k : Int) < (l.length : Int) := by omega
      obtain ⟨bE, offE, rfl, hbE, e0, e1, e2⟩ := (hl.below hw) k hkl
      have hK := keepB_take l b hkl
      have hO := outB_succ b k
      obtain ⟨⟨x0, x1, x2⟩, hxe⟩ : ∃ x, l[k] = x := ⟨_, rfl⟩
      rw [hxe] at e0 e1 e2 hK
      simp only at e0 e1 e2
      clear hxe
      obtain ⟨K, hKe⟩ : ∃ K, keepB l b k = K := ⟨_, rfl⟩
      obtain ⟨O, hOe⟩ : ∃ O, outB b k = O := ⟨_, rfl⟩
      rw [hKe] at hK own1 k1 ⊢
      rw [hOe] at hO own2 k2 ⊢
      clear hKe hOe
      cases hbit : b.testBit k
      · have HK : Hid (keepB l b (k + 1) = K ++ [⟨x0, x1, x2⟩]) := Lib.hid (by rw [hK, hbit]; rfl)
        have HO : Hid (outB b (k + 1) = O) := Lib.hid (by rw [hO, hbit]; simp)
        have hm := bit_off hbit
        clear hK hO hbit
        go_wp2_with (at_builtin; refine wpList_app_lit_at el_rentries rfl _ _ rfl w.heap.size b1 K.length c1 _ rfl own1 1 1 rfl rfl (fun u hu => ?c1) ?c2 ?c3 ?c4 ?_)
        case c1 => simp at hu; rcases hu with rfl | rfl | rfl <;> rfl
        case c2 => unfold maxLen; omega
        case c3 => omega
        case c4 => omega
        intro b8 c8 w8 own8 hb8 hkeep
        obtain ⟨own28, hap8⟩ := hkeep own2 hap
        go_wp2
        go_roundw
        case rel => exact ⟨k + 1, b8, c8, b2, c2, by omega, by go_num, by rw [HK.out]; simp, by rw [HO.out], by rw [HK.out, flatE_snoc]; simpa using own8, by rw [HO.out]; exact own28, hap8, hw.trans hb8⟩
        case measure => simp [intOf]; omega
      · have HK : Hid (keepB l b (k + 1) = K) := Lib.hid (by rw [hK, hbit]; simp)
        have HO : Hid (outB b (k + 1) = O ++ [(k : Int)]) := Lib.hid (by rw [hO, hbit]; rfl)
        have hm := bit_on hbit
        clear hK hO hbit
        go_wp2_with (at_builtin; refine wpList_app_lit_at elInt rfl _ _ rfl w.heap.size b2 O.length c2 _ rfl own2 1 1 rfl rfl (fun u hu => ?c1) ?c2 ?c3 ?c4 ?_)
        case c1 => simp at hu; subst hu; rfl
        case c2 => unfold maxLen; omega
        case c3 => omega
        case c4 => omega
        intro b8 c8 w8 own8 hb8 hkeep
        obtain ⟨own18, hap8⟩ := hkeep own1 hap.symm
        go_wp2
        go_roundw
        case rel => exact ⟨k + 1, b1, c1, b8, c8, by omega, by go_num, by rw [HK.out], by rw [HO.out]; simp, by rw [HK.out]; exact own18, by rw [HO.out, List.map_append]; simpa using own8, hap8.symm, hw.trans hb8⟩
        case measure => simp [intOf]; omega
    · obtain rfl : k = l.length := by omega
      have i2 := own2.ints.1
      have i1 := own1.ents
      have n2 : b2 = none → c2 = 0 := fun h => by subst h; exact own2.isnil.2
      go_wp2
      go_ret2
      exact ⟨⟨b1, c1, b2, c2, rfl, i1, i2, n2⟩, hw⟩
end Go.Proofs.Ytfclemnkcpadpaa

namespace Go.Proofs.Ytfclemnkcpadpaa
set_option linter.unusedVariables false
set_option linter.unusedSimpArgs false
set_option linter.unnecessarySimpa false
open Go.RowKit Go.Flow Go.Shelf

theorem tryF_len (p : Post) (l : List Ent) : ∀ k, (tryF p l k).length ≤ l.length
  | 0 => outB_len _ _
  | k + 1 => by
    rw [tryF]
    split
    · exact outB_len _ _
    · exact tryF_len p l k
theorem tryF_succ (p : Post) (l : List Ent) (b : Nat) : tryF p l (b + 1) = if lessB (outB b l.length) (tryF p l b) && explB p (keepB l b l.length) then outB b l.length else tryF p l b := rfl
def RetSl (l : List Int) (e : Ending) (w' : World) : Prop := ∃ a c, e = .returned (.slice a l.length c) ∧ IntsAt w' a l
theorem less_eq (a : Option Addr) (xs : List Int) (n c : Nat) (hn : Hid (xs.length = n)) (b : Option Addr) (ys : List Int) (m d : Nat) (hm : Hid (ys.length = m)) (B : Bool) (hB : Hid (lessB xs ys = B)) (w : World) (hx : IntsAt w a xs) (hy : IntsAt w b ys) (lx : n ≤ 1000) (ly : m ≤ 1000) :
    Calls Try.prog 51 #[.slice a n c, .slice b m d] w fun e w' => e = .returned (.bool B) ∧ Below w.heap.size w w' := by
  obtain ⟨rfl⟩ := hn
  obtain ⟨rfl⟩ := hm
  rw [← hB.out]
  exact less_any a xs c b ys d w hx hy (by omega) (by omega)
theorem some_eq (al : Option Addr) (l : List Ent) (cl : Nat) (b : Nat) (K : List Ent) (O : List Int) (nk no : Nat) (hK : Hid (keepB l b l.length = K)) (hO : Hid (outB b l.length = O)) (hnk : Hid (K.length = nk)) (hno : Hid (O.length = no)) (w : World) (hl : EntsAt w al l) (ll : l.length ≤ 10) (hb : b < 1024) :
    Calls Try.prog 50 #[.slice al l.length cl, .int .i64 (b : Int)] w fun e w' => (∃ a1 c1 a2 c2, e = .returned (.tuple #[.slice a1 nk c1, .slice a2 no c2]) ∧ EntsAt w' a1 K ∧ IntsAt w' a2 O ∧ (a2 = none → c2 = 0)) ∧ Below w.heap.size w w' := by
  rw [← hnk.out, ← hno.out, ← hK.out, ← hO.out]
  exact some_any al l cl b w hl ll hb

set_option maxRecDepth 100000 in
set_option maxHeartbeats 4000000 in
theorem refOdd_any (a : Option Addr) (c : Nat) (ar : Option Addr) (cr : Nat) (p : Post) (al : Option Addr) (l : List Ent) (cl : Nat) (w : World) (hs : IntsAt w a p.sends) (hr : RoutesAt w ar p.routes) (H0 : Hid (postErr p = 0)) (hl : EntsAt w al l) (ll : l.length ≤ 8) :
    Calls Try.prog 43 #[.agg #[.slice a p.sends.length c, .slice ar p.routes.length cr, .int .i64 p.pat], .slice al l.length cl] w fun e w' => RetSl (oddF p l) e w' ∧ Below w.heap.size w w' := by
  have Ht := Lib.hid (tryF_odd H0.out l)
  obtain ⟨W1, hW1⟩ : ∃ z : World, z = w.alloc (.cells #[.slice a p.sends.length c, .slice ar p.routes.length cr, .int .i64 p.pat] 25) := ⟨_, rfl⟩
  have C1 : Cells W1 w.heap.size #[.slice a p.sends.length c, .slice ar p.routes.length cr, .int .i64 p.pat] 25 := by rw [hW1]; exact Cells.new _ _ _
  have t1 : Below w.heap.size w W1 := by rw [hW1]; exact (Below.refl _ _).alloc (Nat.le_refl _) _
  have h256 : 2 ^ l.length ≤ 256 := by
    have := Nat.pow_le_pow_right (n := 2) (by omega) ll
    exact this
  have hpos := Nat.two_pow_pos l.length
  obtain ⟨M, hM⟩ : ∃ M : Nat, 2 ^ l.length = M := ⟨_, rfl⟩
  have hMI : wrap64 (2 ^ l.length) = (M : Int) := by
    rw [show (2 : Int) ^ l.length = (M : Int) by rw [← hM]; simp]
    exact IntWalk.wrap64_in _ (by omega)
  rw [hM] at h256 hpos Ht
  have hMM : Hid ((M : Int) - 1 = ((M - 1 : Nat) : Int)) := Lib.hid (by omega)
  have hz : tryF p l 0 = outB (M - 1) l.length := by rw [← hM]; rfl
  have Hlen := Lib.hid (tryF_len p l)
  obtain ⟨K0, hK0⟩ : ∃ K, keepB l (M - 1) l.length = K := ⟨_, rfl⟩
  obtain ⟨nk0, hnk0⟩ : ∃ n, K0.length = n := ⟨_, rfl⟩
  obtain ⟨T0, hT0⟩ : ∃ O, tryF p l 0 = O := ⟨_, rfl⟩
  obtain ⟨no0, hno0⟩ : ∃ n, T0.length = n := ⟨_, rfl⟩
  have HK0 := Lib.hid hK0
  have Hnk0 := Lib.hid hnk0
  have HT0 := Lib.hid hT0
  have Hno0 := Lib.hid hno0
  have HO0 : Hid (outB (M - 1) l.length = T0) := Lib.hid (by rw [← hz, hT0])
  clear hM hz hK0 hnk0 hT0 hno0
  have hM1 : M - 1 < 1024 := by omega
  go_enter Try.func43, Try.ntmps43
  go_wp2_with fail
  rw [← hW1, hMM.out]
  clear hW1
  go_at_call 50
  refine (some_eq al l cl (M - 1) K0 T0 nk0 no0 HK0 HO0 Hnk0 Hno0 _ (hl.below t1) (by omega) hM1).mono ?_
  rintro e w2 ⟨⟨a1, c1, a2, c2, rfl, _, i2, _⟩, b2⟩
  have t2 := t1.trans (b2.mono t1.size)
  have C2 := C1.below b2
  clear b2 t1 C1
  go_wp2_with fail
  go_loopw [6, 7] (fun v u wr => ∃ (b : Nat) (T : List Int) (a' : Option Addr) (c' : Nat), b ≤ M ∧ u = .int .i64 b ∧ tryF p l b = T ∧ v = .slice a' T.length c' ∧ IntsAt wr a' T ∧ Below w2.heap.size w2 wr) (fun _ u _ => M - (intOf u).toNat)
  case atStart => exact ⟨0, T0, a2, c2, Nat.zero_le _, rfl, HT0.out, by rw [Hno0.out], i2, Below.refl _ _⟩
  case round =>
    obtain ⟨b, T, a', c', hb, rfl, hT, rfl, iT, hw⟩ := hrel
    have tw := t2.trans (hw.mono t2.size)
    have HT := Lib.hid hT
    have lT : T.length ≤ 8 := by rw [← hT]; have := Hlen.out b; omega
    clear i2 hT
    have q0 := (C2.below hw).cell 0
    have q1 := (C2.below hw).cell 1
    have q2 := (C2.below hw).cell 2
    have lC := (C2.below hw).lt
    simp at q0 q1 q2
    by_cases hbM : b < M
    · have hbI : (b : Int) < (M : Int) := by omega
      obtain ⟨K, hK⟩ : ∃ K, keepB l b l.length = K := ⟨_, rfl⟩
      obtain ⟨O, hO⟩ : ∃ O, outB b l.length = O := ⟨_, rfl⟩
      have hs1 := tryF_succ p l b
      rw [hK, hO, HT.out] at hs1
      have lK : K.length ≤ 8 := by rw [← hK]; have := keepB_len l b l.length; omega
      have lO : O.length ≤ 8 := by rw [← hO]; have := outB_len b l.length; omega
      obtain ⟨nk, hnk⟩ : ∃ n, K.length = n := ⟨_, rfl⟩
      obtain ⟨no, hno⟩ : ∃ n, O.length = n := ⟨_, rfl⟩
      obtain ⟨nt, hnt⟩ : ∃ n, T.length = n := ⟨_, rfl⟩
      rw [hnk] at lK
      rw [hno] at lO
      rw [hnt] at lT ⊢
      have HK := Lib.hid hK
      have HO := Lib.hid hO
      have Hnk := Lib.hid hnk
      have Hno := Lib.hid hno
      have Hnt := Lib.hid hnt
      obtain ⟨L, hL⟩ : ∃ L, lessB O T = L := ⟨_, rfl⟩
      obtain ⟨X, hX⟩ : ∃ X, explB p K = X := ⟨_, rfl⟩
      rw [hL, hX] at hs1
      have HL := Lib.hid hL
      have HX := Lib.hid hX
      have Hs1 := Lib.hid hs1
      clear hK hO hnk hno hnt hL hX hs1
      go_wp2_with fail
      go_at_call 50
      refine (some_eq al l cl b K O nk no HK HO Hnk Hno _ (hl.below tw) (by omega) (by omega)).mono ?_
      rintro e x1 ⟨⟨a3, c3, a4, c4, rfl, k3, o4, _⟩, b1⟩
      have iT1 := iT.below b1
      have r0 := below_cell b1 q0
      have r1 := below_cell b1 q1
      have r2 := below_cell b1 q2
      have lC1 := cell_ltK r0
      go_wp2_with fail
      go_at_call 51
      refine (less_eq a4 O no c4 Hno a' T nt c' Hnt L HL _ o4 iT1 (by omega) (by omega)).mono ?_
      rintro e x2 ⟨rfl, b2⟩
      replace r0 := below_cell b2 r0
      replace r1 := below_cell b2 r1
      replace r2 := below_cell b2 r2
      replace lC1 := cell_ltK r0
      have k4 := k3.below b2
      have o5 := o4.below b2
      have iT2 := iT1.below b2
      have j2 := b1.trans (b2.mono b1.size)
      cases L
      · have Hn : Hid (tryF p l (b + 1) = T) := Lib.hid (by rw [Hs1.out]; rfl)
        go_wp2_with fail
        go_roundw
        case rel => exact ⟨b + 1, T, a', c', by omega, by go_num, Hn.out, by rw [Hnt.out], iT2, hw.trans (j2.mono hw.size)⟩
        case measure => simp [intOf]; omega
      · go_wp2_with fail
        go_at_call 54
        have tz2 := tw.trans (j2.mono tw.size)
        rw [← Hnk.out]
        refine (explained_eq a c ar cr p a3 K c3 _ X HX (hs.below (by (repeat (first | exact Below.refl _ _ | refine Below.alloc ?_ (by first | omega | (simp; done) | (simp; omega)) _ | refine Below.drew ?_ | refine Below.setCell ?_ (by first | omega | (simp; done) | (simp; omega)) _ | refine Below.trans ?_ (Below.mono (by assumption) (by first | omega | (simp; done) | (simp; omega))))))) (hr.below (by (repeat (first | exact Below.refl _ _ | refine Below.alloc ?_ (by first | omega | (simp; done) | (simp; omega)) _ | refine Below.drew ?_ | refine Below.setCell ?_ (by first | omega | (simp; done) | (simp; omega)) _ | refine Below.trans ?_ (Below.mono (by assumption) (by first | omega | (simp; done) | (simp; omega))))))) H0 k4 (by rw [Hnk.out]; omega)).mono ?_
        rintro e x3 ⟨rfl, b3⟩
        have j3 := j2.trans (b3.mono j2.size)
        cases X
        · have Hn : Hid (tryF p l (b + 1) = T) := Lib.hid (by rw [Hs1.out]; rfl)
          go_wp2_with fail
          go_roundw
          case rel => exact ⟨b + 1, T, a', c', by omega, by go_num, Hn.out, by rw [Hnt.out], iT2.below b3, hw.trans (j3.mono hw.size)⟩
          case measure => simp [intOf]; omega
        · have Hn : Hid (tryF p l (b + 1) = O) := Lib.hid (by rw [Hs1.out]; rfl)
          go_wp2_with fail
          go_roundw
          case rel => exact ⟨b + 1, O, a4, c4, by omega, by go_num, Hn.out, by rw [Hno.out], o5.below b3, hw.trans (j3.mono hw.size)⟩
          case measure => simp [intOf]; omega
    · obtain rfl : b = M := by omega
      have hbI : ¬ ((b : Int) < (b : Int)) := by omega
      obtain rfl : T = oddF p l := by rw [← HT.out, Ht.out]
      go_wp2_with fail
      go_ret
      exact ⟨⟨a', c', rfl, iT⟩, tw⟩
end Go.Proofs.Ytfclemnkcpadpaa

namespace Go.Proofs.Ytfclemnkcpadpaa
set_option linter.unusedVariables false
set_option linter.unusedSimpArgs false
set_option linter.unnecessarySimpa false
open Go.RowKit Go.Flow

theorem expl_iff {p : Post} (h0 : postErr p = 0) (l : List Ent) : explB p l = true ↔ ∃ f : Nat, finS p l p.sends.length f = true := by
  rw [← finS_search h0 l p.sends.length 0 (by omega)]
  unfold explB searchF
  constructor
  · intro h; exact ⟨0, rfl, h⟩
  · rintro ⟨f, hf, h⟩
    have : f = 0 := of_decide_eq_true hf
    subst this
    exact h
theorem finT_other {p : Post} {k j : Nat} {at_ : Int} {sk : Bool} (hj : j ≠ k) (a b : Nat) : finT p [⟨(k : Int), at_, sk⟩] j a b = true := by
  unfold finT fitsB wrongB
  simp; omega
theorem finT_nil (p : Post) (j a b : Nat) : finT p [] j a b = true := rfl
theorem finS_low {p : Post} {k : Nat} {at_ : Int} {sk : Bool} : ∀ j, j ≤ k → finS p [⟨(k : Int), at_, sk⟩] j = finS p [] j
  | 0, _ => rfl
  | j + 1, hj => by
    funext n
    rw [Bool.eq_iff_iff]
    show rowG _ _ _ _ _ n = true ↔ rowG _ _ _ _ _ n = true
    rw [rowG_iff, rowG_iff, finS_low j (by omega)]
    constructor
    · rintro ⟨x, y, h1, h2, h3, h4, _, h6⟩; exact ⟨x, y, h1, h2, h3, h4, finT_nil _ _ _ _, h6⟩
    · rintro ⟨x, y, h1, h2, h3, h4, _, h6⟩; exact ⟨x, y, h1, h2, h3, h4, finT_other (by omega) _ _, h6⟩
theorem finS_back {p : Post} (l : List Ent) {j : Nat} (h : ∃ f, finS p l (j + 1) f = true) : ∃ f, finS p l j f = true := by
  obtain ⟨f, hf⟩ := h
  obtain ⟨x, y, _, _, h3, _⟩ := rowG_iff.1 (show rowG _ _ _ _ _ f = true from hf)
  exact ⟨x, h3⟩
theorem finS_backs {p : Post} (l : List Ent) (j : Nat) : ∀ d, (∃ f, finS p l (j + d) f = true) → ∃ f, finS p l j f = true
  | 0, h => h
  | d + 1, h => finS_backs l j d (finS_back l h)
theorem finS_on {p : Post} (h0 : postErr p = 0) {l : List Ent} {j : Nat} (hj : j < p.sends.length) (hT : ∀ a b, finT p l j a b = true) (h : ∃ f, finS p l j f = true) : ∃ f, finS p l (j + 1) f = true := by
  obtain ⟨f, hf⟩ := h
  obtain ⟨e, e1, _, e3, _⟩ := earliest_spec h0 hj
  have := finS_le h0 l j (by omega) f hf
  exact ⟨_, rowG_iff.2 ⟨f, e, by omega, by omega, hf, by rw [comF_can h0 hj e1]; exact e3, hT _ _, rfl⟩⟩
theorem finS_ons {p : Post} (h0 : postErr p = 0) {k : Nat} {at_ : Int} {sk : Bool} : ∀ d, k + 1 + d ≤ p.sends.length → (∃ f, finS p [⟨(k : Int), at_, sk⟩] (k + 1) f = true) → ∃ f, finS p [⟨(k : Int), at_, sk⟩] (k + 1 + d) f = true
  | 0, _, h => h
  | d + 1, hd, h => by
    have hne : k + 1 + d ≠ k := by omega
    exact finS_on h0 (show k + 1 + d < p.sends.length by omega) (fun a b => finT_other hne a b) (finS_ons h0 d (by omega) h)
theorem one_reach {p : Post} (h0 : postErr p = 0) {k : Nat} (hk : k < p.sends.length) (n : Nat) : (explB p [⟨(k : Int), (n : Int), false⟩] = true ∨ explB p [⟨(k : Int), (n : Int), true⟩] = true) ↔ finS p [] (k + 1) n = true := by
  have fwd : ∀ sk, explB p [⟨(k : Int), (n : Int), sk⟩] = true → finS p [] (k + 1) n = true := by
    intro sk h
    have h1 := (expl_iff h0 _).1 h
    obtain ⟨f, hf⟩ := finS_backs [⟨(k : Int), (n : Int), sk⟩] (k + 1) (p.sends.length - (k + 1)) (by rw [show k + 1 + (p.sends.length - (k + 1)) = p.sends.length by omega]; exact h1)
    obtain ⟨x, y, g1, g2, g3, g4, g5, g6⟩ := rowG_iff.1 (show rowG _ _ _ _ _ f = true from hf)
    rw [finS_low k (Nat.le_refl _)] at g3
    have hat : (recvF p k x y).at_ = (n : Int) := by
      unfold finT fitsB wrongB entNe at g5
      simp at g5
      exact g5.1.2.symm
    have : f = n := by
      rw [← g6]; unfold finM; rw [hat]; rfl
    subst this
    exact rowG_iff.2 ⟨x, y, g1, g2, g3, g4, finT_nil _ _ _ _, g6⟩
  constructor
  · rintro (h | h)
    · exact fwd false h
    · exact fwd true h
  · intro h
    obtain ⟨x, y, g1, g2, g3, g4, _, g6⟩ := rowG_iff.1 (show rowG _ _ _ _ _ n = true from h)
    have key : explB p [⟨(k : Int), (n : Int), (recvF p k x y).skip⟩] = true := by
      rw [expl_iff h0, show p.sends.length = k + 1 + (p.sends.length - (k + 1)) by omega]
      refine finS_ons h0 _ (by omega) ⟨n, rowG_iff.2 ⟨x, y, g1, g2, by rw [finS_low k (Nat.le_refl _)]; exact g3, g4, ?_, g6⟩⟩
      have hat : (recvF p k x y).at_ = (n : Int) := by rw [recv_nat, g6]
      have hnum : (recvF p k x y).num = (k : Int) := rfl
      unfold finT fitsB wrongB entNe
      simp [hat, hnum]
    cases hs : (recvF p k x y).skip
    · rw [hs] at key; exact Or.inl key
    · rw [hs] at key; exact Or.inr key
end Go.Proofs.Ytfclemnkcpadpaa

namespace Go.Proofs.Ytfclemnkcpadpaa
set_option linter.unusedVariables false
set_option linter.unusedSimpArgs false
set_option linter.unnecessarySimpa false
open Go.RowKit Go.Flow

def shA (n : Int) (r : Int × Int) : Int × Int := (r.1 + n, r.2 + n)
def shL (n : Int) (l : Leg) : Leg := ⟨l.lo, l.hi, l.asl.map (shA n)⟩
def shR (n : Int) (r : Route) : Route := ⟨r.legs.map (shL n), r.lossy⟩
def shP (n : Int) (p : Post) : Post := ⟨p.sends.map (· + n), p.routes.map (shR n), p.pat⟩
def shS (n : Nat) (S : Hrs) : Hrs := fun k => decide (n ≤ k) && S (k - n)
theorem sh_asleep (n : Int) (l : Leg) (h : Int) : asleepB (shL n l) (h + n) = asleepB l h := by
  unfold asleepB shL
  simp only [List.any_map]
  congr 1
  funext r
  simp [inR, shA]
theorem sh_awkN (n : Int) (l : Leg) : ∀ (k : Nat) (h : Int), awkN (shL n l) k (h + n) = awkN l k h + n
  | 0, h => rfl
  | k + 1, h => by
    simp only [awkN, sh_asleep]
    rw [show h + n + 1 = h + 1 + n by omega, sh_awkN n l k (h + 1)]
    split <;> rfl
theorem awkN_more (l : Leg) : ∀ (k j : Nat) (h : Int), asleepB l (awkN l k h) = false → awkN l (k + j) h = awkN l k h
  | 0, j, h, ha => by
    simp only [awkN] at ha ⊢
    cases j with
    | zero => rfl
    | succ j => simp [awkN, ha]
  | k + 1, j, h, ha => by
    rw [show k + 1 + j = k + j + 1 by omega]
    simp only [awkN] at ha ⊢
    split
    · rename_i hs
      rw [if_pos hs] at ha
      exact awkN_more l k j (h + 1) ha
    · rfl
theorem sh_awk {n : Nat} {l : Leg} (h2 : (shL n l).asl.all (fun r => uptoB r 30) = true) (h : Int) : awk (shL n l) (h + n) = awk l h + n := by
  have e : awk (shL n l) (h + n) = awkN (shL n l) (31 - h).toNat (h + n) := by
    unfold awk
    obtain ⟨j, hj⟩ : ∃ j, (31 - h).toNat = (31 - (h + n)).toNat + j := ⟨(31 - h).toNat - (31 - (h + n)).toNat, by omega⟩
    rw [hj]
    exact (awkN_more _ _ _ _ (awkN_awake _ h2 _ _ (by omega))).symm
  rw [e, sh_awkN]
  rfl
theorem legHr_iff {l : Leg} {S : Hrs} {m : Nat} : legHr l S m = true ↔ ∃ h j : Nat, h < 101 ∧ S h = true ∧ j < (l.hi - l.lo + 1).toNat ∧ awk l (h + l.lo + j) = m := by
  simp only [legHr, List.any_eq_true, Bool.and_eq_true, decide_eq_true_eq, List.mem_range]
  constructor
  · rintro ⟨h, h1, h2, j, h3, h4⟩; exact ⟨h, j, h1, h2, h3, h4⟩
  · rintro ⟨h, j, h1, h2, h3, h4⟩; exact ⟨h, h1, h2, j, h3, h4⟩
theorem legOk_iff {l : Leg} : legOk l = true ↔ 0 ≤ l.lo ∧ l.lo ≤ l.hi ∧ l.hi ≤ 6 ∧ l.asl.all (fun r => uptoB r 30) = true := by
  simp only [legOk, uptoB, Bool.and_eq_true, decide_eq_true_eq]
  constructor
  · rintro ⟨⟨⟨a, b⟩, c⟩, d⟩; exact ⟨a, b, c, d⟩
  · rintro ⟨a, b, c, d⟩; exact ⟨⟨⟨a, b⟩, c⟩, d⟩
theorem sh_legHr {n : Nat} {l : Leg} {S : Hrs} {m : Nat} (h1 : legOk l = true) (h2 : legOk (shL n l) = true) (hS : HrsLe S m) (hm : m + n ≤ 100) : legHr (shL n l) (shS n S) = shS n (legHr l S) := by
  funext x
  obtain ⟨a1, a2, a3, a4⟩ := legOk_iff.1 h1
  obtain ⟨_, _, _, b4⟩ := legOk_iff.1 h2
  rw [Bool.eq_iff_iff, legHr_iff]
  unfold shS
  simp only [Bool.and_eq_true, decide_eq_true_eq, legHr_iff]
  constructor
  · rintro ⟨h, j, c1, ⟨c2, c3⟩, c4, c5⟩
    have e : awk (shL n l) ((h : Int) + l.lo + j) = awk l (((h - n : Nat) : Int) + l.lo + j) + n := by
      rw [← sh_awk b4]; congr 1; omega
    have hb := awk_bd l (((h - n : Nat) : Int) + l.lo + j)
    have c5' : awk (shL n l) ((h : Int) + l.lo + j) = x := c5
    rw [e] at c5'
    refine ⟨by omega, h - n, j, by omega, c3, c4, by omega⟩
  · rintro ⟨c0, h, j, c1, c2, c3, c4⟩
    have := hS h c2
    refine ⟨h + n, j, by omega, ⟨by omega, by rw [Nat.add_sub_cancel]; exact c2⟩, c3, ?_⟩
    show awk (shL n l) (((h + n : Nat) : Int) + l.lo + j) = x
    rw [show ((h + n : Nat) : Int) + l.lo + j = ((h : Int) + l.lo + j) + n by omega, sh_awk b4, c4]
    omega
theorem sh_one {n : Nat} {s : Int} (hs : 0 ≤ s) : oneHr (s + n) = shS n (oneHr s) := by
  funext x
  unfold oneHr shS
  rw [Bool.eq_iff_iff]
  simp only [Bool.and_eq_true, decide_eq_true_eq]
  omega
theorem sh_fold {n : Nat} : ∀ (ls : List Leg) (S : Hrs) (m : Nat), ls.all legOk = true → (ls.map (shL n)).all legOk = true → HrsLe S m → 30 ≤ m → m + 6 * ls.length + n ≤ 100 →
    (ls.map (shL n)).foldl (fun S l => legHr l S) (shS n S) = shS n (ls.foldl (fun S l => legHr l S) S)
  | [], S, m, _, _, _, _, _ => rfl
  | l :: ls, S, m, h1, h2, hS, hm, hb => by
    simp only [List.map_cons, List.all_cons, Bool.and_eq_true, List.length_cons] at h1 h2 hb
    simp only [List.map_cons, List.foldl_cons]
    rw [sh_legHr h1.1 h2.1 hS (by omega)]
    exact sh_fold ls _ (m + 6) h1.2 h2.2 (legHr_le h1.1 hS hm) (by omega) (by omega)
theorem sh_hr {p : Post} {n : Nat} (hn : n ≤ 11) (h0 : postErr p = 0) (h1 : postErr (shP n p) = 0) {i k : Nat} (hi : i < p.sends.length) (hk : k < p.routes.length) : hrF (shP n p) i k = shS n (hrF p i k) := by
  have hs := (post_hours h0).s _ (List.getElem_mem hi)
  obtain ⟨l1, l2, _⟩ := post_legs h0 p.routes[k] (List.getElem_mem hk)
  obtain ⟨_, l3, _⟩ := post_legs h1 (shR n p.routes[k]) (List.mem_map.2 ⟨_, List.getElem_mem hk, rfl⟩)
  have e1 : ((shP n p).routes[k]?) = some (shR n p.routes[k]) := by simp [shP, hk]
  have e2 : p.routes[k]? = some p.routes[k] := List.getElem?_eq_getElem hk
  have e3 : (shP n p).sends.getD i 0 = p.sends[i] + n := by simp [shP, hi]
  have e4 : p.sends.getD i 0 = p.sends[i] := by simp [hi]
  unfold hrF
  rw [e1, e2, e3, e4]
  simp only [Option.map_some, Option.getD_some]
  unfold routeHr
  rw [sh_one hs.1]
  exact sh_fold p.routes[k].legs _ 30 l2 l3 (fun x hx => by simp [oneHr] at hx; omega) (by omega) (by omega)
theorem sh_lossy (p : Post) (n : Int) (k : Nat) : lossyK (shP n p) k = lossyK p k := by
  unfold lossyK shP
  simp only [List.getElem?_map, Option.map_map]
  rfl
/-- Two rising lists of the same numbers are one. -/
theorem rising_ext : ∀ {a b : List Nat}, a.Pairwise (· < ·) → b.Pairwise (· < ·) → (∀ x, x ∈ a ↔ x ∈ b) → a = b
  | [], [], _, _, _ => rfl
  | [], y :: ys, _, _, h => absurd ((h y).2 (by simp)) (by simp)
  | x :: xs, [], _, _, h => absurd ((h x).1 (by simp)) (by simp)
  | x :: xs, y :: ys, ha, hb, h => by
    rw [List.pairwise_cons] at ha hb
    have e : x = y := by
      rcases List.mem_cons.1 ((h x).1 (by simp)) with e | e
      · exact e
      · rcases List.mem_cons.1 ((h y).2 (by simp)) with e' | e'
        · exact e'.symm
        · have := ha.1 y e'; have := hb.1 x e; omega
    subst e
    rw [rising_ext ha.2 hb.2 (fun z => ?_)]
    have hz := h z
    simp only [List.mem_cons] at hz
    constructor
    · intro hm
      have := ha.1 z hm
      rcases hz.1 (Or.inr hm) with e | e
      · omega
      · exact e
    · intro hm
      have := hb.1 z hm
      rcases hz.2 (Or.inr hm) with e | e
      · omega
      · exact e
theorem hrList_nat {f : Hrs} {L : List Nat} (hL : L.Pairwise (· < ·)) (hm : ∀ x, x ∈ L ↔ x < 101 ∧ f x = true) : hrList f = L.map (fun (n : Nat) => (n : Int)) := by
  unfold hrList
  congr 1
  refine rising_ext (hrs_sorted f) hL (fun x => ?_)
  rw [hm, List.mem_filter, List.mem_range]
theorem sh_list {f : Hrs} {m n : Nat} (hf : HrsLe f m) (hm : m + n ≤ 100) : hrList (shS n f) = (hrList f).map (· + (n : Int)) := by
  rw [hrList_nat (f := shS n f) (L := ((List.range 101).filter f).map (· + n))]
  · unfold hrList
    simp only [List.map_map]
    apply List.map_congr_left
    intro x _
    simp only [Function.comp]
    omega
  · rw [List.pairwise_map]
    exact (hrs_sorted f).imp (fun h => by omega)
  · intro x
    simp only [List.mem_map, List.mem_filter, List.mem_range, shS, Bool.and_eq_true, decide_eq_true_eq]
    constructor
    · rintro ⟨y, ⟨h1, h2⟩, rfl⟩
      have := hf y h2
      exact ⟨by omega, by omega, by rw [Nat.add_sub_cancel]; exact h2⟩
    · rintro ⟨h1, h2, h3⟩
      exact ⟨x - n, ⟨by omega, h3⟩, by omega⟩
theorem hr_ok {p : Post} (h0 : postErr p = 0) {i k : Nat} (hi : i < p.sends.length) (hk : k < p.routes.length) : HrsLe (hrF p i k) 48 ∧ ∃ n, hrF p i k n = true := by
  have hs := (post_hours h0).s _ (List.getElem_mem hi)
  obtain ⟨_, _, a3, _, _, _, _, _, a9⟩ := postErr_ok h0
  have e2 : p.routes[k]? = some p.routes[k] := List.getElem?_eq_getElem hk
  have e4 : p.sends.getD i 0 = p.sends[i] := by simp [hi]
  unfold hrF
  rw [e2, e4]
  exact routeHr_ok (List.all_eq_true.1 a3 _ (List.getElem_mem hk)) (List.all_eq_true.1 a9 _ (List.getElem_mem hk)) hs
section
variable {p : Post} {n : Nat} (hn : n ≤ 11) (h0 : postErr p = 0) (h1 : postErr (shP n p) = 0) {i : Nat} (hi : i < p.sends.length)
include hn h0 h1 hi
theorem sh_ends {k : Nat} (hk : k < p.routes.length) : firstH (hrF (shP n p) i k) = firstH (hrF p i k) + n ∧ lastH (hrF (shP n p) i k) = lastH (hrF p i k) + n := by
  have hne := post_ne h0 hi k hk
  have hpos : 0 < (hrList (hrF p i k)).length := List.length_pos_iff.2 hne
  unfold firstH lastH
  rw [sh_hr hn h0 h1 hi hk, sh_list (hr_ok h0 hi hk).1 (by omega), List.length_map]
  simp only [List.getD_eq_getElem?_getD, List.getElem?_map]
  rw [List.getElem?_eq_getElem hpos, List.getElem?_eq_getElem (show (hrList (hrF p i k)).length - 1 < _ by omega)]
  simp
theorem sh_latN : ∀ k, k ≤ p.routes.length → (latN (shP n p) i k = 101 ∧ latN p i k = 101) ∨ (latN (shP n p) i k = latN p i k + n ∧ latN p i k ≤ 48)
  | 0, _ => Or.inl ⟨rfl, rfl⟩
  | k + 1, hk => by
    rw [latN_succ, latN_succ, sh_lossy, (sh_ends hn h0 h1 hi (by omega)).2]
    obtain ⟨m, m1, m2, m3, _⟩ := lastH_spec (post_ne h0 hi k (by omega))
    have := (hr_ok h0 hi (show k < p.routes.length by omega)).1 m m2
    rcases sh_latN k (by omega) with h | h
    · split
      · exact Or.inl h
      · exact Or.inr ⟨by omega, by omega⟩
    · split
      · exact Or.inr h
      · exact Or.inr ⟨by omega, by omega⟩
theorem sh_earN : ∀ k, k ≤ p.routes.length → (earN (shP n p) i k = 101 ∧ earN p i k = 101) ∨ (earN (shP n p) i k = earN p i k + n ∧ earN p i k ≤ 48)
  | 0, _ => Or.inl ⟨rfl, rfl⟩
  | k + 1, hk => by
    rw [earN_succ, earN_succ, (sh_ends hn h0 h1 hi (by omega)).1]
    obtain ⟨m, m1, m2, m3, _⟩ := firstH_spec (post_ne h0 hi k (by omega))
    have := (hr_ok h0 hi (show k < p.routes.length by omega)).1 m m2
    rcases sh_earN k (by omega) with h | h
    · exact Or.inr ⟨by omega, by omega⟩
    · exact Or.inr ⟨by omega, by omega⟩
end
theorem sh_dead {p : Post} {n : Nat} {i : Nat} (hi : i < p.sends.length) : (shP n p).sends.getD i 0 + (shP n p).pat = p.sends.getD i 0 + p.pat + n := by
  simp [shP, hi]; omega
theorem dead_bd' {p : Post} (h0 : postErr p = 0) {k : Nat} (hk : k < p.sends.length) : 0 ≤ p.sends.getD k 0 + p.pat ∧ p.sends.getD k 0 + p.pat ≤ 60 := by
  have hh := post_hours h0
  have e : p.sends.getD k 0 = p.sends[k] := by simp [hk]
  have := hh.s _ (List.getElem_mem hk)
  have := hh.p
  omega
theorem sh_fin {p : Post} {n : Nat} (hn : n ≤ 11) (h0 : postErr p = 0) {F G : Nat → Int} (hF : ∀ i, i < p.sends.length → 0 ≤ F i ∧ ((G i = 101 ∧ F i = 101) ∨ (G i = F i + n ∧ F i ≤ 48))) : ∀ k, k < p.sends.length → finN (shP n p) G (k + 1) = finN p F (k + 1) + n ∧ 0 ≤ finN p F (k + 1)
  | 0, hk => by
    have := hF 0 hk
    have := dead_bd' h0 hk
    rw [finN_succ, finN_succ, sh_dead hk, show finN (shP n p) G 0 = 0 from rfl, show finN p F 0 = 0 from rfl]
    omega
  | k + 1, hk => by
    have ih := sh_fin hn h0 hF k (by omega)
    have := hF (k + 1) hk
    have := dead_bd' h0 hk
    rw [finN_succ (shP n p) G (k + 1), finN_succ p F (k + 1), sh_dead hk, ih.1]
    omega
theorem ear_nn {p : Post} (h0 : postErr p = 0) {i : Nat} (hi : i < p.sends.length) : 0 ≤ earliestF p i ∧ 0 ≤ latestF p i := by
  obtain ⟨m, _, h1, _⟩ := earliest_spec h0 hi
  obtain ⟨m', _, h2, _⟩ := latest_spec h0 hi
  omega
theorem sh_span {p : Post} {n : Nat} (hn : n ≤ 11) (h0 : postErr p = 0) (h1 : postErr (shP n p) = 0) {k : Nat} (hk : k < p.sends.length) : spanAt (shP n p) k = ((spanAt p k).1 + n, (spanAt p k).2 + n) := by
  have el : (shP n p).routes.length = p.routes.length := by simp [shP]
  unfold spanAt
  rw [(sh_fin hn h0 (F := earliestF p) (G := earliestF (shP n p)) (fun i hi => ⟨(ear_nn h0 hi).1, by unfold earliestF; rw [el]; exact sh_earN hn h0 h1 hi _ (Nat.le_refl _)⟩) k hk).1,
    (sh_fin hn h0 (F := latestF p) (G := latestF (shP n p)) (fun i hi => ⟨(ear_nn h0 hi).2, by unfold latestF; rw [el]; exact sh_latN hn h0 h1 hi _ (Nat.le_refl _)⟩) k hk).1]
theorem sh_spans {p : Post} {n : Nat} (hn : n ≤ 11) (h0 : postErr p = 0) (h1 : postErr (shP n p) = 0) : spansOut (shP n p) = (spansOut p).map (shA n) := by
  unfold spansOut
  rw [if_pos h0, if_pos h1, show (shP n p).sends.length = p.sends.length by simp [shP]]
  unfold spansF
  rw [List.map_map]
  apply List.map_congr_left
  intro k hk
  exact sh_span hn h0 h1 (List.mem_range.1 hk)
theorem sh_hours {p : Post} {n : Nat} (hn : n ≤ 11) (h0 : postErr p = 0) (h1 : postErr (shP n p) = 0) {i k : Nat} (hi : i < p.sends.length) (hk : k < p.routes.length) : hoursErr p i k = 0 ∧ hoursErr (shP n p) i k = 0 ∧ hoursOut (shP n p) i k = (hoursOut p i k).map (· + (n : Int)) := by
  have e1 : inLen (i : Int) p.sends.length = true := inR_iff.2 ⟨by omega, by omega⟩
  have e2 : inLen (k : Int) p.routes.length = true := inR_iff.2 ⟨by omega, by omega⟩
  have h2 : hoursErr p i k = 0 := by unfold hoursErr; rw [if_neg (by simpa using h0), e1, e2]; rfl
  have h3 : hoursErr (shP n p) i k = 0 := by
    unfold hoursErr
    rw [if_neg (by simpa using h1), show (shP n p).sends.length = p.sends.length by simp [shP], show (shP n p).routes.length = p.routes.length by simp [shP], e1, e2]; rfl
  refine ⟨h2, h3, ?_⟩
  unfold hoursOut
  rw [if_pos h2, if_pos h3]
  simp only [Int.toNat_natCast]
  rw [sh_hr hn h0 h1 hi hk, sh_list (hr_ok h0 hi hk).1 (by omega)]
end Go.Proofs.Ytfclemnkcpadpaa

namespace Go.Proofs.Ytfclemnkcpadpaa
set_option linter.unusedVariables false
set_option linter.unusedSimpArgs false
set_option linter.unnecessarySimpa false
open Go.RowKit Go.Flow

def U16At (w : World) (a : Option Addr) (xs : List Int) : Prop := ∀ k (h : k < xs.length), ∃ b off, a = some ⟨b, off, none⟩ ∧ b < w.heap.size ∧ w.cell? ⟨b, off + k, none⟩ = some (.int .u16 xs[k])
theorem U16At.below {w w' : World} {a : Option Addr} {xs : List Int} (h : U16At w a xs) (hb : Below w.heap.size w w') : U16At w' a xs := fun k hk =>
  let ⟨b, off, ha, hlt, hc⟩ := h k hk
  ⟨b, off, ha, Nat.lt_of_lt_of_le hlt hb.size, (hb.cell (p := ⟨b, off + k, none⟩) hlt).trans hc⟩
def U16s (ws : List Int) : Prop := ∀ x ∈ ws, 0 ≤ x ∧ x ≤ 65535
def wordN (ws : List Int) (k : Nat) : Nat := (ws.getD (k % ws.length) 0).toNat
theorem wordN_le {ws : List Int} (h : U16s ws) (k : Nat) : wordN ws k ≤ 65535 := by
  unfold wordN
  rcases Nat.eq_zero_or_pos ws.length with e | e
  · rw [List.length_eq_zero_iff.1 e]; simp
  · have hk : k % ws.length < ws.length := Nat.mod_lt _ e
    have := h _ (List.getElem_mem hk)
    simp [hk]; omega
set_option maxHeartbeats 1000000 in
theorem word_any (a : Option Addr) (ws : List Int) (c k : Nat) (w : World) (hw : U16At w a ws) (hu : U16s ws) (hl : ws.length ≤ 9223372036854775807) (hk : k ≤ 1000) :
    Calls Try.prog 84 #[.slice a ws.length c, .int .i64 (k : Int)] w fun e w' => e = .returned (.int .i64 (wordN ws k : Int)) ∧ w = w' := by
  rcases Nat.eq_zero_or_pos ws.length with e | e
  · have he : ((ws.length : Int) == 0) = true := by simp [e]
    have Hn : Hid (wordN ws k = 0) := Lib.hid (by unfold wordN; rw [List.length_eq_zero_iff.1 e]; rfl)
    clear e
    go_enter Try.func84, Try.ntmps84
    go_wp2
    go_ret
    exact ⟨ret_n (by rw [Hn.out]; rfl), rfl⟩
  · have he : ((ws.length : Int) == 0) = false := by rw [beq_eq_false_iff_ne]; omega
    have hne : ¬ ((ws.length : Int) = 0) := by omega
    have hkk : k % ws.length < ws.length := Nat.mod_lt _ e
    obtain ⟨j, hj⟩ : ∃ j, k % ws.length = j := ⟨_, rfl⟩
    have htm : Int.tmod (k : Int) (ws.length : Int) = (j : Int) := by rw [← hj]; rfl
    rw [hj] at hkk
    obtain ⟨b, off, rfl, hb, c0⟩ := hw j hkk
    have hx := hu _ (List.getElem_mem hkk)
    have hjI : (j : Int) < (ws.length : Int) := by omega
    have Hn : Hid ((wordN ws k : Int) = ws[j]) := Lib.hid (by unfold wordN; rw [hj, show ws.getD j 0 = ws[j] by simp [hkk]]; exact Int.toNat_of_nonneg hx.1)
    obtain ⟨x, hxe⟩ : ∃ x, ws[j] = x := ⟨_, rfl⟩
    rw [hxe] at c0 hx Hn
    have hwx : IntKind.i64.wrap x = x := IntWalk.i64_in _ (by omega)
    clear hxe hj e
    go_enter Try.func84, Try.ntmps84
    go_wp2
    go_ret
    exact ⟨ret_n Hn.out.symm, rfl⟩
def pickedF (lo hi : Int) (v : Nat) : Int := if v % 4 = 0 then lo else if v % 4 = 1 then hi else lo + ((v / 4 % (hi - lo + 1).toNat : Nat) : Int)
theorem pickedF_in {lo hi : Int} (h : lo ≤ hi) (v : Nat) : lo ≤ pickedF lo hi v ∧ pickedF lo hi v ≤ hi := by
  unfold pickedF
  split
  · omega
  · split
    · omega
    · have := Nat.mod_lt (v / 4) (show 0 < (hi - lo + 1).toNat by omega)
      omega
set_option maxHeartbeats 2000000 in
theorem picked_any (lo hi : Int) (v : Nat) (w : World) (h0 : 0 ≤ lo) (h1 : lo ≤ hi) (h2 : hi ≤ 1000) (hv : v ≤ 65535) :
    Calls Try.prog 85 #[.agg #[.int .i64 lo, .int .i64 hi], .int .i64 (v : Int)] w fun e w' => e = .returned (.int .i64 (pickedF lo hi v)) ∧ Below w.heap.size w w' := by
  obtain ⟨q, hq⟩ : ∃ q, v % 4 = q := ⟨_, rfl⟩
  have htm : Int.tmod (v : Int) 4 = (q : Int) := by rw [← hq]; rfl
  have q4 : q < 4 := by omega
  match q, q4 with
  | 0, _ =>
    have Hn : Hid (pickedF lo hi v = lo) := Lib.hid (by unfold pickedF; rw [if_pos hq])
    clear hq
    go_enter Try.func85, Try.ntmps85
    go_wp2
    go_ret
    exact ⟨ret_n Hn.out.symm, by (repeat (first | exact Below.refl _ _ | refine Below.alloc ?_ (by first | omega | (simp; done) | (simp; omega)) _ | refine Below.drew ?_ | refine Below.setCell ?_ (by first | omega | (simp; done) | (simp; omega)) _ | refine Below.trans ?_ (Below.mono (by assumption) (by first | omega | (simp; done) | (simp; omega)))))⟩
  | 1, _ =>
    have Hn : Hid (pickedF lo hi v = hi) := Lib.hid (by unfold pickedF; rw [if_neg (by omega), if_pos hq])
    clear hq
    go_enter Try.func85, Try.ntmps85
    go_wp2
    go_ret
    exact ⟨ret_n Hn.out.symm, by (repeat (first | exact Below.refl _ _ | refine Below.alloc ?_ (by first | omega | (simp; done) | (simp; omega)) _ | refine Below.drew ?_ | refine Below.setCell ?_ (by first | omega | (simp; done) | (simp; omega)) _ | refine Below.trans ?_ (Below.mono (by assumption) (by first | omega | (simp; done) | (simp; omega)))))⟩
  | q + 2, h4 =>
    have t0 : (((q + 2 : Nat) : Int) == 0) = false := by simp; omega
    have t1 : (((q + 2 : Nat) : Int) == 1) = false := by simp; omega
    obtain ⟨d, hd⟩ : ∃ d : Nat, hi - lo + 1 = (d : Int) := ⟨(hi - lo + 1).toNat, by omega⟩
    have d0 : ¬ ((d : Int) = 0) := by omega
    have d1 : 0 < d := by omega
    obtain ⟨u, hu⟩ : ∃ u, v / 4 = u := ⟨_, rfl⟩
    have htd : Int.tdiv (v : Int) 4 = (u : Int) := by rw [← hu]; rfl
    obtain ⟨x, hx⟩ : ∃ x, u % d = x := ⟨_, rfl⟩
    have htx : Int.tmod (u : Int) (d : Int) = (x : Int) := by rw [← hx]; rfl
    have hxd : x < d := by rw [← hx]; exact Nat.mod_lt _ d1
    have Hn : Hid (pickedF lo hi v = lo + (x : Int)) := Lib.hid (by unfold pickedF; rw [if_neg (by omega), if_neg (by omega), hu, show (hi - lo + 1).toNat = d by omega, hx])
    have hw1 : IntKind.i64.wrap (hi - lo) = hi - lo := IntWalk.i64_in _ (by omega)
    have hw2 : IntKind.i64.wrap (hi - lo + 1) = (d : Int) := by rw [hd]; exact IntWalk.i64_in _ (by omega)
    have hw3 : IntKind.i64.wrap (lo + (x : Int)) = lo + (x : Int) := IntWalk.i64_in _ (by omega)
    obtain ⟨m, hm⟩ : ∃ m : Int, ((q + 2 : Nat) : Int) = m := ⟨_, rfl⟩
    rw [hm] at htm t0 t1
    have hub : u ≤ 65535 := by omega
    clear hq hx hu hm
    go_enter Try.func85, Try.ntmps85
    go_wp2
    (refine wp_region_ext 12 (by kernel_rfl) (by kernel_rfl) ?_; simp only [List.take_succ_cons, List.take_zero, List.drop_succ_cons, List.drop_zero]; (repeat (go_big_quiet_step ((fail)))); refine wpQuiet_nil ?_; rintro _ ⟨ex, rfl⟩; have hex := ex.below; have hexz := ex.size; (try simp at hexz); (try (have hy0 : w.heap.size < ex.to.heap.size := by omega)); (try (have hy1 : w.heap.size + 1 < ex.to.heap.size := by omega)); (try (have hy2 : w.heap.size + 2 < ex.to.heap.size := by omega)))
    go_wp2
    go_ret
    exact ⟨ret_n Hn.out.symm, by have := ex.below; simp at this; exact ((Below.refl _ _).alloc (Nat.le_refl _) _).trans (this.mono (by simp))⟩
end Go.Proofs.Ytfclemnkcpadpaa

namespace Go.Proofs.Ytfclemnkcpadpaa
set_option linter.unusedVariables false
set_option linter.unusedSimpArgs false
set_option linter.unnecessarySimpa false
open Go.RowKit Go.Flow

def pk1 (ws : List Int) (b : Nat) (ls : List Leg) (m : Nat) : Int := pickedF (ls.getD m ⟨0, 0, []⟩).lo (ls.getD m ⟨0, 0, []⟩).hi (wordN ws (b + m + 1) / 3)
def pkR (ws : List Int) (i : Nat) (rs : List Route) (j : Nat) : List Int :=
  if (rs.getD j ⟨[], false⟩).lossy = true ∧ wordN ws (4 * i + j) % 3 = 0 then [] else (List.range (rs.getD j ⟨[], false⟩).legs.length).map (pk1 ws (4 * i + j) (rs.getD j ⟨[], false⟩).legs)
def pkRow (p : Post) (ws : List Int) (i : Nat) : List (List Int) := (List.range p.routes.length).map (pkR ws i p.routes)
def pkT (p : Post) (ws : List Int) : List (List (List Int)) := (List.range p.sends.length).map (pkRow p ws)
theorem pkR_at (ws : List Int) (i : Nat) {rs : List Route} {j : Nat} (h : j < rs.length) : pkR ws i rs j = if rs[j].lossy = true ∧ wordN ws (4 * i + j) % 3 = 0 then [] else (List.range rs[j].legs.length).map (pk1 ws (4 * i + j) rs[j].legs) := by
  unfold pkR
  rw [show rs.getD j ⟨[], false⟩ = rs[j] by simp [h]]
theorem word_b (a : Option Addr) (ws : List Int) (c k : Nat) (w : World) (hw : U16At w a ws) (hu : U16s ws) (hl : ws.length ≤ 9223372036854775807) (hk : k ≤ 1000) :
    Calls Try.prog 84 #[.slice a ws.length c, .int .i64 (k : Int)] w fun e w' => e = .returned (.int .i64 (wordN ws k : Int)) ∧ Below w.heap.size w w' :=
  (word_any a ws c k w hw hu hl hk).mono fun _ _ ⟨h, e⟩ => ⟨h, by rw [← e]; exact Below.refl _ _⟩
theorem TruthOwn.base_le {B B' : Nat} {w : World} {p : Option Addr × Nat} {t : List (List (List Int))} {n : Nat} (h : TruthOwn B w p t n) (hb : B' ≤ B) : TruthOwn B' w p t n := (NestOwn.base_le h hb).sub fun _ _ h => ListsOwn.base_le h hb
def RetTruth (B : Nat) (t : List (List (List Int))) (n : Nat) (e : Ending) (w' : World) : Prop := ∃ a c, e = .returned (.slice a n c) ∧ TruthOwn B w' (a, c) t n

set_option maxRecDepth 100000 in
set_option maxHeartbeats 8000000 in
theorem truthPicked_any (a : Option Addr) (c : Nat) (ar : Option Addr) (cr : Nat) (p : Post) (aw : Option Addr) (ws : List Int) (cw : Nat) (w : World) (hs : IntsAt w a p.sends) (hr : RoutesAt w ar p.routes) (hw : U16At w aw ws) (hu : U16s ws) (lw : ws.length ≤ 9223372036854775807) (H0 : Hid (postErr p = 0)) :
    Calls Try.prog 46 #[.agg #[.slice a p.sends.length c, .slice ar p.routes.length cr, .int .i64 p.pat], .slice aw ws.length cw] w fun e w' => RetTruth w.heap.size (pkT p ws) p.sends.length e w' ∧ Below w.heap.size w w' := by
  have lS := (postErr_ok H0.out).1
  have lR := (postErr_ok H0.out).2.1
  have HLG := Lib.hid (post_legs H0.out)
  obtain ⟨W1, hW1⟩ : ∃ z : World, z = w.alloc (.cells #[.slice a p.sends.length c, .slice ar p.routes.length cr, .int .i64 p.pat] 25) := ⟨_, rfl⟩
  have C1 : Cells W1 w.heap.size #[.slice a p.sends.length c, .slice ar p.routes.length cr, .int .i64 p.pat] 25 := by rw [hW1]; exact Cells.new _ _ _
  have t1 : Below w.heap.size w W1 := by rw [hW1]; exact (Below.refl _ _).alloc (Nat.le_refl _) _
  have z1 := t1.size
  go_enter Try.func46, Try.ntmps46
  go_wp2
  rw [← hW1]
  clear hW1
  go_loopw [5, 6] (fun v u wr => ∃ (k : Nat) (a' : Option Addr) (c' : Nat), k ≤ p.sends.length ∧ u = .int .i64 k ∧ v = .slice a' k c' ∧ TruthOwn W1.heap.size wr (a', c') (pkT p ws) k ∧ Below W1.heap.size W1 wr) (fun _ u _ => p.sends.length - (intOf u).toNat)
  case atStart => exact ⟨0, none, 0, Nat.zero_le _, rfl, rfl, NestOwn.nil _ _ _, Below.refl _ _⟩
  case round =>
    obtain ⟨k, a', c', hk, rfl, rfl, hT, hb⟩ := hrel
    have zb := hb.size
    have q0 := (C1.below hb).cell 0
    have q1 := (C1.below hb).cell 1
    have lq := (C1.below hb).lt
    simp at q0 q1
    by_cases hkl : k < p.sends.length
    · have hkI : (k : Int) < (p.sends.length : Int) := by omega
      have hx : Hid ((pkT p ws)[k]? = some (pkRow p ws k)) := Lib.hid (by unfold pkT; simp [hkl])
      have lrow : (pkRow p ws k).length = p.routes.length := by unfold pkRow; simp
      have Hlrow := Lib.hid lrow
      clear lrow
      go_wp2
      obtain ⟨Wo, hWo⟩ : ∃ z : World, z = wr := ⟨_, rfl⟩
      subst hWo
      go_loopw [7, 8] (fun v u wq => ∃ (j : Nat) (a6 : Option Addr) (c6 : Nat), j ≤ p.routes.length ∧ u = .int .i64 j ∧ v = .slice a6 j c6 ∧ ListsOwn Wo.heap.size wq (a6, c6) (pkRow p ws k) j ∧ Below Wo.heap.size Wo wq) (fun _ u _ => p.routes.length - (intOf u).toNat)
      case atStart => exact ⟨0, none, 0, Nat.zero_le _, rfl, rfl, NestOwn.nil _ _ _, Below.refl _ _⟩
      case round =>
        obtain ⟨j, a6, c6, hj, rfl, rfl, hJ, hb2⟩ := hrel
        have zq := hb2.size
        have d1 := below_cell hb2 q1
        have ld1 := cell_ltK d1
        have tq := t1.trans ((hb.trans (hb2.mono zb)).mono z1)
        by_cases hjl : j < p.routes.length
        · have hjI : (j : Int) < (p.routes.length : Int) := by omega
          obtain ⟨bR, offR, al, ca, rfl, hbR, e0, e1, eL⟩ := (hr.below tq) j hjl
          have lo3 := HLG.out p.routes[j] (List.getElem_mem hjl)
          have Hj : Hid ((pkRow p ws k)[j]? = some (if p.routes[j].lossy = true ∧ wordN ws (4 * k + j) % 3 = 0 then [] else (List.range p.routes[j].legs.length).map (pk1 ws (4 * k + j) p.routes[j].legs))) := Lib.hid (by unfold pkRow; simp only [List.getElem?_map]; rw [List.getElem?_range hjl]; simp only [Option.map_some]; rw [pkR_at ws k hjl])
          obtain ⟨r, hre⟩ : ∃ x, p.routes[j] = x := ⟨_, rfl⟩
          rw [hre] at e0 e1 eL lo3 Hj
          clear hre
          obtain ⟨l3, lok, _⟩ := lo3
          have Hlok := Lib.hid lok
          clear lok
          have hc1 : ((4 * k + j : Nat) : Int) = 4 * (k : Int) + (j : Int) := by omega
          have hwd := word_any aw ws cw (4 * k + j) wr (hw.below tq) hu lw (by omega)
          rw [hc1] at hwd
          have hq := wordN_le hu (4 * k + j)
          obtain ⟨q, hqe⟩ : ∃ q, wordN ws (4 * k + j) = q := ⟨_, rfl⟩
          rw [hqe] at hwd hq Hj
          obtain ⟨m3, hm3⟩ : ∃ m, q % 3 = m := ⟨_, rfl⟩
          have htm : Int.tmod (q : Int) 3 = (m3 : Int) := by rw [← hm3]; rfl
          rw [hm3] at Hj
          clear hc1 hqe hm3
          go_wp2_with fail
          go_at_call 84
          refine hwd.mono ?_
          rintro e _ ⟨rfl, rfl⟩
          clear hwd
          cases hly : r.lossy
          · rw [hly] at e1
            have Hly := Lib.hid hly
            clear hly
            go_wp2
            obtain ⟨Wq, hWq⟩ : ∃ z : World, z = wr := ⟨_, rfl⟩
            subst hWq
            go_loopw [10, 11] (fun v u wq => ∃ (m : Nat) (a8 : Option Addr) (c8 : Nat), m ≤ r.legs.length ∧ u = .int .i64 m ∧ v = .slice a8 m c8 ∧ OwnL 3 1 Wq.heap.size wq a8 c8 m (((List.range m).map (pk1 ws (4 * k + j) r.legs)).map (Value.int .i64)) ∧ Below Wq.heap.size Wq wq) (fun _ u _ => r.legs.length - (intOf u).toNat)
            case atStart => exact ⟨0, none, 0, Nat.zero_le _, rfl, rfl, OwnL.nil _ _ _ _, Below.refl _ _⟩
            case round =>
              obtain ⟨m, a8, c8, hm, rfl, rfl, hO, hb3⟩ := hrel
              have z3 := hb3.size
              have dd1 := below_cell hb3 d1
              have ldd1 := cell_ltK dd1
              have g0 := below_cell hb3 e0
              have lg0 := cell_ltK g0
              by_cases hml : m < r.legs.length
              · have hmI : (m : Int) < (r.legs.length : Int) := by omega
                obtain ⟨bL, offL, ar6, c6', rfl, hbL, l0, l1, l2, _⟩ := (eL.below hb3) m hml
                have hlk := legOk_iff.1 (List.all_eq_true.1 Hlok.out _ (List.getElem_mem hml))
                have Hpk : Hid (pk1 ws (4 * k + j) r.legs m = pickedF r.legs[m].lo r.legs[m].hi (wordN ws (4 * k + j + m + 1) / 3)) := Lib.hid (by unfold pk1; simp [hml])
                obtain ⟨lg, hlg⟩ : ∃ x, r.legs[m] = x := ⟨_, rfl⟩
                rw [hlg] at l0 l1 hlk Hpk
                obtain ⟨lo, hlo⟩ : ∃ x, lg.lo = x := ⟨_, rfl⟩
                obtain ⟨hi, hhi⟩ : ∃ x, lg.hi = x := ⟨_, rfl⟩
                rw [hlo, hhi] at Hpk hlk
                rw [hlo] at l0
                rw [hhi] at l1
                clear hlg hlo hhi l2
                have hc2 : ((4 * k + j + m + 1 : Nat) : Int) = 4 * (k : Int) + (j : Int) + (m : Int) + 1 := by omega
                have hwd2 := fun X (b : Below wr.heap.size wr X) => word_b aw ws cw (4 * k + j + m + 1) X (((hw.below tq).below hb3).below b) hu lw (by omega)
                rw [hc2] at hwd2
                have hq2 := wordN_le hu (4 * k + j + m + 1)
                obtain ⟨q2, hq2e⟩ : ∃ q, wordN ws (4 * k + j + m + 1) = q := ⟨_, rfl⟩
                rw [hq2e] at hwd2 hq2 Hpk
                obtain ⟨u2, hu2⟩ : ∃ u, q2 / 3 = u := ⟨_, rfl⟩
                have htd : Int.tdiv (q2 : Int) 3 = (u2 : Int) := by rw [← hu2]; rfl
                rw [hu2] at Hpk
                have hub : u2 ≤ 65535 := by omega
                have hpk := fun X => picked_any lo hi u2 X (by omega) (by omega) (by omega) hub
                obtain ⟨P, hP⟩ : ∃ P, pickedF lo hi u2 = P := ⟨_, rfl⟩
                rw [hP] at hpk Hpk
                have hbL2 := cell_ltK l0
                have hv1 : IntKind.i64.wrap (4 * (k : Int)) = 4 * (k : Int) := IntWalk.i64_in _ (by omega)
                have hv2 : IntKind.i64.wrap (4 * (k : Int) + (j : Int)) = 4 * (k : Int) + (j : Int) := IntWalk.i64_in _ (by omega)
                have hv3 : IntKind.i64.wrap (4 * (k : Int) + (j : Int) + (m : Int)) = 4 * (k : Int) + (j : Int) + (m : Int) := IntWalk.i64_in _ (by omega)
                have hv4 : IntKind.i64.wrap (4 * (k : Int) + (j : Int) + (m : Int) + 1) = 4 * (k : Int) + (j : Int) + (m : Int) + 1 := IntWalk.i64_in _ (by omega)
                have hv5 : IntKind.i64.wrap (u2 : Int) = (u2 : Int) := IntWalk.i64_in _ (by omega)
                clear hc2 hq2e hu2 hP hlk
                go_wp2
                (refine wp_region_seq 23 [] [23, 24] 90 [true, true, true, true, true, true, true, true, true, true, true, true, true, true, true, true, true, true, true, true, true, true, false] [LitV wr.heap.size 1 #[.int .i64 P] 3] (by kernel_rfl) (by kernel_rfl) rfl (mono_cons (fun v w w' h hb => h.kept hb) mono_nil) ?_; simp only [pickOps, List.filterMap_cons, List.filterMap_nil, List.getElem?_toArray, List.getElem?_cons_succ, List.getElem?_cons_zero]; (repeat (refine wpFl_step _ rfl (fun w => (by go_simp; rfl)) ?_)); refine wpFl_nil ?_; simp only [maskOps, dummy, Act.put, List.setIfInBounds_toArray, List.set_cons_zero, List.set_cons_succ, List.take_succ_cons, List.take_zero, List.drop_succ_cons, List.drop_zero]; (repeat (refine wpQB_step (fun K hK => ?_); go_simp; first | (refine hK _ ?_; clear hK K) | (apply Exists.intro; refine ⟨fun ex => ?_, hK _ ?_⟩; (first | (go_at_call 84; with_reducible exact hwd2 _ ex.below) | (go_at_call 85; with_reducible exact hpk _)); clear hK K))); refine wpQB_nil ?_; simp only [relObl2, under, relEnd, and_true, List.nil_append, List.cons_append])
                refine ⟨?_, ?_⟩
                · intro e
                  go_simp
                  exact ⟨(Below.refl _ _).alloc (Nat.le_refl _) _, e.to.heap.size, rfl, e.size, Cells.new _ _ _⟩
                intro e
                rintro v1 ⟨gg, rfl, hg, CG⟩
                simp only [Act.put, List.setIfInBounds_toArray, List.set_cons_zero, List.set_cons_succ]
                have he5 := e.below
                obtain ⟨w5, hw5⟩ : ∃ x : World, x = e.to := ⟨_, rfl⟩
                rw [← hw5] at he5 CG ⊢
                clear hw5 e hwd2 hpk
                have z5 := he5.size
                have own5 := hO.kept he5
                refine wpList_app elInt rfl _ _ rfl Wq.heap.size a8 m c8 _ rfl own5 (some ⟨gg, 0, none⟩) 1 1 [.int .i64 P] rfl (fun h => by cases h) rfl CG.src (fun u hu => by simp at hu; subst hu; rfl) (by unfold maxLen; omega) (by omega) (by omega) ?_
                intro a9 c9 w9 own9 hb9
                have own9' : OwnL 3 1 Wq.heap.size w9 a9 c9 (m + 1) (((List.range (m + 1)).map (pk1 ws (4 * k + j) r.legs)).map (Value.int .i64)) := by
                  rw [List.range_succ, List.map_append, List.map_append]
                  simp only [List.map_cons, List.map_nil, Hpk.out]
                  exact own9
                go_wp2
                go_roundw
                case rel => exact ⟨m + 1, a9, c9, by omega, by go_num, rfl, own9', (hb3.trans (he5.mono z3)).trans hb9⟩
                case measure => simp [intOf]; omega
              · obtain rfl : m = r.legs.length := by omega
                have hxe : Hid ((pkRow p ws k)[j]? = some ((List.range r.legs.length).map (pk1 ws (4 * k + j) r.legs))) := Lib.hid (by rw [Hj.out, if_neg (by rw [Hly.out]; simp)])
                have lxe : ((List.range r.legs.length).map (pk1 ws (4 * k + j) r.legs)).length = r.legs.length := by simp
                obtain ⟨X, hX⟩ : ∃ X, (List.range r.legs.length).map (pk1 ws (4 * k + j) r.legs) = X := ⟨_, rfl⟩
                rw [hX] at hO hxe lxe
                clear hX
                have hJ3 := hJ.kept hb3
                obtain ⟨ps, hps, hown, hsub⟩ := hJ3
                have ho' : IntsOwn Wo.heap.size wr (a8, c8) X := by
                  have := OwnL.base_le hO zq
                  unfold IntsOwn
                  rw [lxe]; exact this
                go_wp2_with (at_builtin; refine wpList_app_g el_lists rfl _ _ rfl Wo.heap.size a6 j c6 _ rfl (hown.alloc _) (some ⟨wr.heap.size, 0, none⟩) 1 1 [.slice a8 r.legs.length c8] rfl (fun h => by cases h) rfl (Cells.src (Cells.new _ _ _)) (fun u hu => by simp at hu; subst hu; rfl) (by unfold maxLen; omega) (by omega) (by simp; omega) ?_; intro a7 c7 w7 hown7 hb7 hg7)
                have hgA : ∀ {p : Option Addr × Nat} {y : List Int}, IntsOwn Wo.heap.size wr p y → IntsOwn Wo.heap.size w7 p y := fun {p y} h => OwnL.grown (OwnL.alloc (show OwnL 3 1 Wo.heap.size wr p.1 p.2 y.length (y.map (Value.int .i64)) from h) _) hg7 (OwnL.apart (by decide) h hown)
                go_roundw
                case rel => exact ⟨j + 1, a7, c7, by omega, by go_num, rfl, NestOwn.snoc hps hxe.out (a8, c8) (by unfold sv; simp only [lxe]; exact hown7) (fun q y p h1 h2 => hgA (hsub q y p h1 h2)) (hgA ho'), hb2.trans ((hb3.mono zq).trans ((((Below.refl _ _).alloc (Nat.le_refl _) _).mono (by omega)).trans hb7))⟩
                case measure => simp [intOf]; omega
          · rw [hly] at e1
            have Hly := Lib.hid hly
            clear hly
            by_cases h3 : m3 = 0
            · subst h3
              have hxe : Hid ((pkRow p ws k)[j]? = some []) := Lib.hid (by rw [Hj.out, if_pos ⟨Hly.out, rfl⟩])
              have hJ3 := hJ
              obtain ⟨ps, hps, hown, hsub⟩ := hJ3
              have ho' : IntsOwn Wo.heap.size wr (none, 0) [] := OwnL.nil _ _ _ _
              go_wp2_with (at_builtin; refine wpList_app_g el_lists rfl _ _ rfl Wo.heap.size a6 j c6 _ rfl (hown.alloc _) (some ⟨wr.heap.size, 0, none⟩) 1 1 [.slice none 0 0] rfl (fun h => by cases h) rfl (Cells.src (Cells.new _ _ _)) (fun u hu => by simp at hu; subst hu; rfl) (by unfold maxLen; omega) (by omega) (by simp; omega) ?_; intro a7 c7 w7 hown7 hb7 hg7)
              have hgA : ∀ {p : Option Addr × Nat} {y : List Int}, IntsOwn Wo.heap.size wr p y → IntsOwn Wo.heap.size w7 p y := fun {p y} h => OwnL.grown (OwnL.alloc (show OwnL 3 1 Wo.heap.size wr p.1 p.2 y.length (y.map (Value.int .i64)) from h) _) hg7 (OwnL.apart (by decide) h hown)
              go_roundw
              case rel => exact ⟨j + 1, a7, c7, by omega, by go_num, rfl, NestOwn.snoc hps hxe.out (none, 0) hown7 (fun q y p h1 h2 => hgA (hsub q y p h1 h2)) (hgA ho'), hb2.trans ((((Below.refl _ _).alloc (Nat.le_refl _) _).mono zq).trans hb7)⟩
              case measure => simp [intOf]; omega
            · have h3b : ((m3 : Int) == 0) = false := by rw [beq_eq_false_iff_ne]; omega
              have H3 := Lib.hid h3
              clear h3
              go_wp2
              obtain ⟨Wq, hWq⟩ : ∃ z : World, z = wr := ⟨_, rfl⟩
              subst hWq
              go_loopw [10, 11] (fun v u wq => ∃ (m : Nat) (a8 : Option Addr) (c8 : Nat), m ≤ r.legs.length ∧ u = .int .i64 m ∧ v = .slice a8 m c8 ∧ OwnL 3 1 Wq.heap.size wq a8 c8 m (((List.range m).map (pk1 ws (4 * k + j) r.legs)).map (Value.int .i64)) ∧ Below Wq.heap.size Wq wq) (fun _ u _ => r.legs.length - (intOf u).toNat)
              case atStart => exact ⟨0, none, 0, Nat.zero_le _, rfl, rfl, OwnL.nil _ _ _ _, Below.refl _ _⟩
              case round =>
                obtain ⟨m, a8, c8, hm, rfl, rfl, hO, hb3⟩ := hrel
                have z3 := hb3.size
                have dd1 := below_cell hb3 d1
                have ldd1 := cell_ltK dd1
                have g0 := below_cell hb3 e0
                have lg0 := cell_ltK g0
                by_cases hml : m < r.legs.length
                · have hmI : (m : Int) < (r.legs.length : Int) := by omega
                  obtain ⟨bL, offL, ar6, c6', rfl, hbL, l0, l1, l2, _⟩ := (eL.below hb3) m hml
                  have hlk := legOk_iff.1 (List.all_eq_true.1 Hlok.out _ (List.getElem_mem hml))
                  have Hpk : Hid (pk1 ws (4 * k + j) r.legs m = pickedF r.legs[m].lo r.legs[m].hi (wordN ws (4 * k + j + m + 1) / 3)) := Lib.hid (by unfold pk1; simp [hml])
                  obtain ⟨lg, hlg⟩ : ∃ x, r.legs[m] = x := ⟨_, rfl⟩
                  rw [hlg] at l0 l1 hlk Hpk
                  obtain ⟨lo, hlo⟩ : ∃ x, lg.lo = x := ⟨_, rfl⟩
                  obtain ⟨hi, hhi⟩ : ∃ x, lg.hi = x := ⟨_, rfl⟩
                  rw [hlo, hhi] at Hpk hlk
                  rw [hlo] at l0
                  rw [hhi] at l1
                  clear hlg hlo hhi l2
                  have hc2 : ((4 * k + j + m + 1 : Nat) : Int) = 4 * (k : Int) + (j : Int) + (m : Int) + 1 := by omega
                  have hwd2 := fun X (b : Below wr.heap.size wr X) => word_b aw ws cw (4 * k + j + m + 1) X (((hw.below tq).below hb3).below b) hu lw (by omega)
                  rw [hc2] at hwd2
                  have hq2 := wordN_le hu (4 * k + j + m + 1)
                  obtain ⟨q2, hq2e⟩ : ∃ q, wordN ws (4 * k + j + m + 1) = q := ⟨_, rfl⟩
                  rw [hq2e] at hwd2 hq2 Hpk
                  obtain ⟨u2, hu2⟩ : ∃ u, q2 / 3 = u := ⟨_, rfl⟩
                  have htd : Int.tdiv (q2 : Int) 3 = (u2 : Int) := by rw [← hu2]; rfl
                  rw [hu2] at Hpk
                  have hub : u2 ≤ 65535 := by omega
                  have hpk := fun X => picked_any lo hi u2 X (by omega) (by omega) (by omega) hub
                  obtain ⟨P, hP⟩ : ∃ P, pickedF lo hi u2 = P := ⟨_, rfl⟩
                  rw [hP] at hpk Hpk
                  have hbL2 := cell_ltK l0
                  have hv1 : IntKind.i64.wrap (4 * (k : Int)) = 4 * (k : Int) := IntWalk.i64_in _ (by omega)
                  have hv2 : IntKind.i64.wrap (4 * (k : Int) + (j : Int)) = 4 * (k : Int) + (j : Int) := IntWalk.i64_in _ (by omega)
                  have hv3 : IntKind.i64.wrap (4 * (k : Int) + (j : Int) + (m : Int)) = 4 * (k : Int) + (j : Int) + (m : Int) := IntWalk.i64_in _ (by omega)
                  have hv4 : IntKind.i64.wrap (4 * (k : Int) + (j : Int) + (m : Int) + 1) = 4 * (k : Int) + (j : Int) + (m : Int) + 1 := IntWalk.i64_in _ (by omega)
                  have hv5 : IntKind.i64.wrap (u2 : Int) = (u2 : Int) := IntWalk.i64_in _ (by omega)
                  clear hc2 hq2e hu2 hP hlk
                  go_wp2
                  (refine wp_region_seq 23 [] [23, 24] 90 [true, true, true, true, true, true, true, true, true, true, true, true, true, true, true, true, true, true, true, true, true, true, false] [LitV wr.heap.size 1 #[.int .i64 P] 3] (by kernel_rfl) (by kernel_rfl) rfl (mono_cons (fun v w w' h hb => h.kept hb) mono_nil) ?_; simp only [pickOps, List.filterMap_cons, List.filterMap_nil, List.getElem?_toArray, List.getElem?_cons_succ, List.getElem?_cons_zero]; (repeat (refine wpFl_step _ rfl (fun w => (by go_simp; rfl)) ?_)); refine wpFl_nil ?_; simp only [maskOps, dummy, Act.put, List.setIfInBounds_toArray, List.set_cons_zero, List.set_cons_succ, List.take_succ_cons, List.take_zero, List.drop_succ_cons, List.drop_zero]; (repeat (refine wpQB_step (fun K hK => ?_); go_simp; first | (refine hK _ ?_; clear hK K) | (apply Exists.intro; refine ⟨fun ex => ?_, hK _ ?_⟩; (first | (go_at_call 84; with_reducible exact hwd2 _ ex.below) | (go_at_call 85; with_reducible exact hpk _)); clear hK K))); refine wpQB_nil ?_; simp only [relObl2, under, relEnd, and_true, List.nil_append, List.cons_append])
                  refine ⟨?_, ?_⟩
                  · intro e
                    go_simp
                    exact ⟨(Below.refl _ _).alloc (Nat.le_refl _) _, e.to.heap.size, rfl, e.size, Cells.new _ _ _⟩
                  intro e
                  rintro v1 ⟨gg, rfl, hg, CG⟩
                  simp only [Act.put, List.setIfInBounds_toArray, List.set_cons_zero, List.set_cons_succ]
                  have he5 := e.below
                  obtain ⟨w5, hw5⟩ : ∃ x : World, x = e.to := ⟨_, rfl⟩
                  rw [← hw5] at he5 CG ⊢
                  clear hw5 e hwd2 hpk
                  have z5 := he5.size
                  have own5 := hO.kept he5
                  refine wpList_app elInt rfl _ _ rfl Wq.heap.size a8 m c8 _ rfl own5 (some ⟨gg, 0, none⟩) 1 1 [.int .i64 P] rfl (fun h => by cases h) rfl CG.src (fun u hu => by simp at hu; subst hu; rfl) (by unfold maxLen; omega) (by omega) (by omega) ?_
                  intro a9 c9 w9 own9 hb9
                  have own9' : OwnL 3 1 Wq.heap.size w9 a9 c9 (m + 1) (((List.range (m + 1)).map (pk1 ws (4 * k + j) r.legs)).map (Value.int .i64)) := by
                    rw [List.range_succ, List.map_append, List.map_append]
                    simp only [List.map_cons, List.map_nil, Hpk.out]
                    exact own9
                  go_wp2
                  go_roundw
                  case rel => exact ⟨m + 1, a9, c9, by omega, by go_num, rfl, own9', (hb3.trans (he5.mono z3)).trans hb9⟩
                  case measure => simp [intOf]; omega
                · obtain rfl : m = r.legs.length := by omega
                  have hxe : Hid ((pkRow p ws k)[j]? = some ((List.range r.legs.length).map (pk1 ws (4 * k + j) r.legs))) := Lib.hid (by rw [Hj.out, if_neg (fun h => H3.out h.2)])
                  have lxe : ((List.range r.legs.length).map (pk1 ws (4 * k + j) r.legs)).length = r.legs.length := by simp
                  obtain ⟨X, hX⟩ : ∃ X, (List.range r.legs.length).map (pk1 ws (4 * k + j) r.legs) = X := ⟨_, rfl⟩
                  rw [hX] at hO hxe lxe
                  clear hX
                  have hJ3 := hJ.kept hb3
                  obtain ⟨ps, hps, hown, hsub⟩ := hJ3
                  have ho' : IntsOwn Wo.heap.size wr (a8, c8) X := by
                    have := OwnL.base_le hO zq
                    unfold IntsOwn
                    rw [lxe]; exact this
                  go_wp2_with (at_builtin; refine wpList_app_g el_lists rfl _ _ rfl Wo.heap.size a6 j c6 _ rfl (hown.alloc _) (some ⟨wr.heap.size, 0, none⟩) 1 1 [.slice a8 r.legs.length c8] rfl (fun h => by cases h) rfl (Cells.src (Cells.new _ _ _)) (fun u hu => by simp at hu; subst hu; rfl) (by unfold maxLen; omega) (by omega) (by simp; omega) ?_; intro a7 c7 w7 hown7 hb7 hg7)
                  have hgA : ∀ {p : Option Addr × Nat} {y : List Int}, IntsOwn Wo.heap.size wr p y → IntsOwn Wo.heap.size w7 p y := fun {p y} h => OwnL.grown (OwnL.alloc (show OwnL 3 1 Wo.heap.size wr p.1 p.2 y.length (y.map (Value.int .i64)) from h) _) hg7 (OwnL.apart (by decide) h hown)
                  go_roundw
                  case rel => exact ⟨j + 1, a7, c7, by omega, by go_num, rfl, NestOwn.snoc hps hxe.out (a8, c8) (by unfold sv; simp only [lxe]; exact hown7) (fun q y p h1 h2 => hgA (hsub q y p h1 h2)) (hgA ho'), hb2.trans ((hb3.mono zq).trans ((((Below.refl _ _).alloc (Nat.le_refl _) _).mono (by omega)).trans hb7))⟩
                  case measure => simp [intOf]; omega
        · obtain rfl : j = p.routes.length := by omega
          have hT2 := hT.kept hb2
          obtain ⟨ps, hps, hown, hsub⟩ := hT2
          have hJ' : ListsOwn W1.heap.size wr (a6, c6) (pkRow p ws k) (pkRow p ws k).length := by rw [Hlrow.out]; exact hJ.base_le (by omega)
          have wA : ∀ o, Below wr.heap.size wr (wr.alloc o) := fun o => (Below.refl _ _).alloc (Nat.le_refl _) _
          go_wp2_with (at_builtin; refine wpList_app_g el_truths rfl _ _ rfl W1.heap.size a' k c' _ rfl (hown.alloc _) (some ⟨wr.heap.size, 0, none⟩) 1 1 [.slice a6 p.routes.length c6] rfl (fun h => by cases h) rfl (Cells.src (Cells.new _ _ _)) (fun u hu => by simp at hu; subst hu; rfl) (by unfold maxLen; omega) (by omega) (by simp; omega) ?_; intro a7 c7 w7 hown7 hb7 hg7)
          have hgI : ∀ o {p : Option Addr × Nat} {y : List Int}, (wr.alloc o).grownBy w7 (Value.slice a' k c').ownBlock → IntsOwn W1.heap.size wr p y → IntsOwn W1.heap.size w7 p y := fun o {p y} hg7 h => OwnL.grown (OwnL.alloc h o) hg7 (OwnL.apart (by decide) h hown)
          have hgL : ∀ {p : Option Addr × Nat} {y : List (List Int)}, ListsOwn W1.heap.size wr p y y.length → ListsOwn W1.heap.size w7 p y y.length := fun {p y} h => by
            obtain ⟨qs, q1, q2, q3⟩ := h
            exact ⟨qs, q1, OwnL.grown (OwnL.alloc q2 _) hg7 (OwnL.apart (by decide) q2 hown), fun q x p hx hp => hgI _ hg7 (q3 q x p hx hp)⟩
          go_roundw
          case rel => exact ⟨k + 1, a7, c7, by omega, by go_num, rfl, NestOwn.snoc hps hx.out (a6, c6) (by unfold sv; simp only [Hlrow.out]; exact hown7) (fun q y p h1 h2 => hgL (hsub q y p h1 h2)) (hgL hJ'), hb.trans ((hb2.mono zb).trans (((wA _).mono (by omega)).trans hb7))⟩
          case measure => simp [intOf]; omega
    · obtain rfl : k = p.sends.length := by omega
      go_wp2
      go_ret
      exact ⟨⟨a', c', rfl, TruthOwn.base_le hT z1⟩, t1.trans (hb.mono z1)⟩
end Go.Proofs.Ytfclemnkcpadpaa

namespace Go.Proofs.Ytfclemnkcpadpaa
set_option linter.unusedVariables false
set_option linter.unusedSimpArgs false
set_option linter.unnecessarySimpa false
open Go.RowKit Go.Flow

theorem inB_all : ∀ (ts : List Int) (ls : List Leg), (∀ (j : Nat) (h1 : j < ts.length) (h2 : j < ls.length), inR ts[j] (ls[j].lo, ls[j].hi) = true) → inB ts ls = true
  | [], _, _ => by simp [inB]
  | _ :: _, [], _ => by simp [inB]
  | t :: ts, l :: ls, h => by
    rw [inB, show inR t (l.lo, l.hi) = true from h 0 (by simp) (by simp), Bool.true_and]
    exact inB_all ts ls (fun j h1 h2 => h (j + 1) (by simpa using h1) (by simpa using h2))
theorem midE_fit (f : Bool → Int) : ∀ (l : List (List Int)) (rs : List Route), l.length = rs.length → (∀ (j : Nat) (h1 : j < l.length) (h2 : j < rs.length), rowBad rs[j] l[j] = false ∧ inB l[j] rs[j].legs = true) → midE true l rs f = f true
  | [], [], _, _ => by simp [midE]
  | [], _ :: _, h, _ => by simp at h
  | _ :: _, [], h, _ => by simp at h
  | ts :: l, r :: rs, h, hf => by
    obtain ⟨h1, h2⟩ := hf 0 (by simp) (by simp)
    simp only [List.getElem_cons_zero] at h1 h2
    rw [midE, h1, h2]
    simp only [Bool.and_true]
    exact midE_fit f l rs (by simpa using h) (fun j h1 h2 => hf (j + 1) (by simpa using h1) (by simpa using h2))
theorem outE_fit (rs : List Route) : ∀ (t : List (List (List Int))), (∀ l ∈ t, l.length = rs.length ∧ ∀ (j : Nat) (h1 : j < l.length) (h2 : j < rs.length), rowBad rs[j] l[j] = false ∧ inB l[j] rs[j].legs = true) → outE rs true t = 0
  | [], _ => by simp [outE]
  | l :: t, h => by
    obtain ⟨h1, h2⟩ := h l (by simp)
    rw [outE, if_neg (by simpa using h1), midE_fit _ l rs h1 h2]
    exact outE_fit rs t (fun x hx => h x (by simp [hx]))
section
variable {p : Post} (h0 : postErr p = 0) (ws : List Int)
include h0
theorem pkR_fit {i j : Nat} (hj : j < p.routes.length) : rowBad p.routes[j] (pkR ws i p.routes j) = false ∧ inB (pkR ws i p.routes j) p.routes[j].legs = true := by
  obtain ⟨l3, lok, _⟩ := post_legs h0 p.routes[j] (List.getElem_mem hj)
  rw [pkR_at ws i hj]
  split
  · rename_i h
    exact ⟨by simp [rowBad, h.1], by simp [inB]⟩
  · refine ⟨by simp [rowBad], inB_all _ _ (fun m h1 h2 => ?_)⟩
    obtain ⟨a1, a2, a3, _⟩ := legOk_iff.1 (List.all_eq_true.1 lok _ (List.getElem_mem h2))
    simp only [List.getElem_map, List.getElem_range, pk1]
    rw [show p.routes[j].legs.getD m ⟨0, 0, []⟩ = p.routes[j].legs[m] by simp [h2]]
    have := pickedF_in a2 (wordN ws (4 * i + j + m + 1) / 3)
    exact inR_iff.2 this
theorem pkT_shape : shapeErr p (pkT p ws) = 0 := by
  unfold shapeErr
  rw [if_neg (by simp [pkT])]
  refine outE_fit _ _ (fun l hl => ?_)
  obtain ⟨i, _, rfl⟩ := List.mem_map.1 hl
  refine ⟨by simp [pkRow], fun j h1 h2 => ?_⟩
  have e : (pkRow p ws i)[j] = pkR ws i p.routes j := by simp [pkRow]
  rw [e]
  exact pkR_fit h0 ws h2
theorem pkT_small : TruthSmall (pkT p ws) := by
  have l1 := (postErr_ok h0).1
  have l2 := (postErr_ok h0).2.1
  refine ⟨by simp [pkT]; omega, fun l hl => ?_, fun l hl ts hts => ?_⟩
  · obtain ⟨i, _, rfl⟩ := List.mem_map.1 hl
    simp [pkRow]; omega
  · obtain ⟨i, _, rfl⟩ := List.mem_map.1 hl
    obtain ⟨j, hj, rfl⟩ := List.mem_map.1 hts
    have hj' := List.mem_range.1 hj
    have l3 := (post_legs h0 p.routes[j] (List.getElem_mem hj')).1
    rw [pkR_at ws i hj']
    split
    · simp
    · simp; omega
end
theorem pat_playGo {p : Post} {x : Int} (hx : p.pat ≤ x) : ∀ (t : List (List (List Int))) (i : Nat) (b b' : Int), b ≤ b' → ∀ (k : Nat) (h : k < (playGo p i b t).length) (h' : k < (playGo (withPat p x) i b' t).length), ((playGo (withPat p x) i b' t)[k].skip = true → (playGo p i b t)[k].skip = true) ∧ (playGo p i b t)[k].at_ ≤ (playGo (withPat p x) i b' t)[k].at_
  | [], i, b, b', _, k, h, _ => by simp [playGo] at h
  | l :: t, i, b, b', hb, 0, h, h' => by
    simp only [playGo, List.getElem_cons_zero, recvF, decide_eq_true_eq]
    have e1 : (withPat p x).sends = p.sends := rfl
    have e2 : (withPat p x).routes = p.routes := rfl
    have e3 : (withPat p x).pat = x := rfl
    rw [e1, e2, e3]
    exact ⟨fun _ => by omega, by omega⟩
  | l :: t, i, b, b', hb, k + 1, h, h' => by
    simp only [playGo, List.getElem_cons_succ]
    refine pat_playGo hx t (i + 1) _ _ ?_ k _ _
    simp only [recvF]
    have e1 : (withPat p x).sends = p.sends := rfl
    have e2 : (withPat p x).routes = p.routes := rfl
    have e3 : (withPat p x).pat = x := rfl
    rw [e1, e2, e3]
    omega
theorem pat_fin {p : Post} {x : Int} (hx : p.pat ≤ x) (F : Nat → Int) : ∀ k, finN p F k ≤ finN (withPat p x) F k
  | 0 => by simp [finN]
  | k + 1 => by
    have ih := pat_fin hx F k
    rw [finN_succ, finN_succ]
    have e1 : (withPat p x).sends = p.sends := rfl
    have e3 : (withPat p x).pat = x := rfl
    rw [e1, e3]
    omega
theorem pat_span {p : Post} {x : Int} (hx : p.pat ≤ x) (k : Nat) : (spanAt p k).1 ≤ (spanAt (withPat p x) k).1 ∧ (spanAt p k).2 ≤ (spanAt (withPat p x) k).2 :=
  ⟨pat_fin hx (earliestF p) (k + 1), pat_fin hx (latestF p) (k + 1)⟩
end Go.Proofs.Ytfclemnkcpadpaa

namespace Go.Proofs.Ytfclemnkcpadpaa
set_option linter.unusedVariables false
set_option linter.unusedSimpArgs false
set_option linter.unnecessarySimpa false
open Go.RowKit Go.Flow
open Go.ChangeShapes Go.WideShapes Go.ChangeAt Go.Deep Go.Joins

section
variable {H : Type} {enc : TypeId × Value → H} {w : World} {base : Nat} {spare : Nat → Bool} {held : Bool}
def U16C (x : Int) (cs : List Value) : Prop := cs = [.int .u16 x] ∧ (Lit.int .u16 x).wf = true
set_option maxRecDepth 100000 in
theorem open_words {r : Reach} {b0 : Nat} {v : Value} {d : DataW H} {p : List MemPlace} (hv : Value.okWide Try.prog w r b0 79 v) (h : DataW.Trod enc Try.prog w base spare held 79 v d p) :
    ∃ (a : Option Addr) (xs : List Int) (c : Nat), v = .slice a xs.length c ∧ U16At w a xs ∧ (a = none → c = 0) ∧ xs.length ≤ c ∧ c ≤ maxLen ∧ U16s xs := by
  obtain ⟨a0, len0, cap0, rfl⟩ := okWide_slice Try.underlying79 hv
  obtain ⟨fuel, hf⟩ := h
  obtain ⟨a, xs, c, e, h2, h3, h4, h5⟩ := open_each 0 Try.underlying79 1 (by kernel_rfl) (by omega) U16C (fun n cs' y ht hl => by obtain ⟨z, e, _, hz⟩ := DataW.trod_int Try.underlying165 ht; exact ⟨z, e, by simpa using hz⟩) hf
  simp [Value.cells] at e
  obtain ⟨rfl, rfl, rfl⟩ := e
  refine ⟨_, xs, _, rfl, fun k hk => ?_, h2, h3, h4, fun x hx => ?_⟩
  · obtain ⟨b, off, cs', ha, hb, ⟨hr, _⟩, hc⟩ := h5 k hk
    rw [hr] at hc
    exact ⟨b, off, ha, hb, by have := hc 0 _ rfl; simpa using this⟩
  · obtain ⟨k, hk, rfl⟩ := List.getElem_of_mem hx
    obtain ⟨b, off, cs', ha, hb, ⟨_, hr⟩, hc⟩ := h5 k hk
    simp [Lit.wf, IntKind.min, IntKind.max, IntKind.bits, IntKind.signed] at hr
    omega
end
theorem pkT_len (p : Post) (ws : List Int) : (pkT p ws).length = p.sends.length := by simp [pkT]
theorem pickedT_eq (a : Option Addr) (c : Nat) (ar : Option Addr) (cr : Nat) (p : Post) (aw : Option Addr) (ws : List Int) (cw : Nat) (w : World) (t : List (List (List Int))) (ht : Hid (pkT p ws = t)) (hs : IntsAt w a p.sends) (hr : RoutesAt w ar p.routes) (hw : U16At w aw ws) (hu : Hid (U16s ws)) (lw : ws.length ≤ 9223372036854775807) (H0 : Hid (postErr p = 0)) :
    Calls Try.prog 46 #[.agg #[.slice a p.sends.length c, .slice ar p.routes.length cr, .int .i64 p.pat], .slice aw ws.length cw] w fun e w' => (∃ a c, e = .returned (.slice a p.sends.length c) ∧ TruthAt w' a t ∧ (a = none → c = 0)) ∧ Below w.heap.size w w' :=
  (truthPicked_any a c ar cr p aw ws cw w hs hr hw hu.out lw H0).mono fun e w' ⟨⟨a1, c1, he, ho⟩, hb⟩ => by
    refine ⟨⟨a1, c1, he, ?_, fun h => ?_⟩, hb⟩
    · rw [← ht.out]
      refine TruthOwn.at (p := (a1, c1)) (B := w.heap.size) ?_
      rw [pkT_len]; exact ho
    · subst h; exact (NestOwn.isnil ho).2
theorem truthN_eq (at_ : Option Addr) (t : List (List (List Int))) (N ct : Nat) (hN : Hid (t.length = N)) (w : World) (ht : TruthAt w at_ t) (st : Hid (TruthSmall t)) :
    Calls Try.prog 23 #[.slice at_ N ct] w fun e w' => (∃ a c, e = .returned (.slice a N c) ∧ TruthAt w' a t) ∧ Below w.heap.size w w' := by
  obtain ⟨rfl⟩ := hN
  exact truth_eq w at_ t ct ht st
theorem playN_eq (a : Option Addr) (c : Nat) (ar : Option Addr) (cr : Nat) (p : Post) (w : World) (at_ : Option Addr) (t : List (List (List Int))) (N ct : Nat) (hN : Hid (t.length = N)) (E : Int) (O : List Ent) (n : Nat) (hE : Hid (playErr p t = E)) (hO : Hid (playOut p t = O)) (hn : Hid (O.length = n)) (hs : IntsAt w a p.sends) (hr : RoutesAt w ar p.routes) (sm : Hid (PostSmall p)) (ht : TruthAt w at_ t) (st : Hid (TruthSmall t)) :
    Calls Try.prog 22 #[.agg #[.slice a p.sends.length c, .slice ar p.routes.length cr, .int .i64 p.pat], .slice at_ N ct] w fun e w' => (∃ a c, e = .returned (.tuple #[.slice a n c, .int .i64 E]) ∧ EntsAt w' a O) ∧ Below w.heap.size w w' := by
  obtain ⟨rfl⟩ := hN
  exact play_eq a c ar cr p w at_ t ct E O n hE hO hn hs hr sm ht st
theorem playXN_eq (a : Option Addr) (c : Nat) (ar : Option Addr) (cr : Nat) (p : Post) (x : Int) (w : World) (at_ : Option Addr) (t : List (List (List Int))) (N ct : Nat) (hN : Hid (t.length = N)) (E : Int) (O : List Ent) (n : Nat) (hE : Hid (playErr (withPat p x) t = E)) (hO : Hid (playOut (withPat p x) t = O)) (hn : Hid (O.length = n)) (hs : IntsAt w a p.sends) (hr : RoutesAt w ar p.routes) (sm : Hid (PostSmall p)) (ht : TruthAt w at_ t) (st : Hid (TruthSmall t)) :
    Calls Try.prog 22 #[.agg #[.slice a p.sends.length c, .slice ar p.routes.length cr, .int .i64 x], .slice at_ N ct] w fun e w' => (∃ a c, e = .returned (.tuple #[.slice a n c, .int .i64 E]) ∧ EntsAt w' a O) ∧ Below w.heap.size w w' :=
  playN_eq a c ar cr (withPat p x) w at_ t N ct hN E O n hE hO hn hs hr (Lib.hid (pat_small sm.out x)) ht st
end Go.Proofs.Ytfclemnkcpadpaa

namespace Go.Proofs.Ytfclemnkcpadpaa
set_option linter.unusedVariables false
set_option linter.unusedSimpArgs false
set_option linter.unnecessarySimpa false
open Go.RowKit Go.Flow

def note1 (J : List Ent) (ws : List Int) (k : Nat) : Ent := J.getD (wordN ws (k + 5) % J.length) ⟨0, 0, false⟩
def noteF (J : List Ent) (ws : List Int) (n : Nat) : List Ent := (List.range n).map (note1 J ws)
theorem noteF_succ (J : List Ent) (ws : List Int) (n : Nat) : noteF J ws (n + 1) = noteF J ws n ++ [note1 J ws n] := by simp [noteF, List.range_succ]
theorem noteF_len (J : List Ent) (ws : List Int) (n : Nat) : (noteF J ws n).length = n := by simp [noteF]

set_option maxRecDepth 100000 in
set_option maxHeartbeats 8000000 in
theorem noted0_any (a : Option Addr) (c : Nat) (ar : Option Addr) (cr : Nat) (p : Post) (at_ : Option Addr) (t : List (List (List Int))) (N ct : Nat) (aw : Option Addr) (ws : List Int) (cw : Nat) (many : Nat) (w : World) (J : List Ent) (hJ : Hid (playF p t = J)) (hN : Hid (t.length = N)) (hn : Hid (J.length = N)) (hpos : 0 < N) (hs : IntsAt w a p.sends) (hr : RoutesAt w ar p.routes) (ht : TruthAt w at_ t) (ok : Hid (PlayOk p t)) (hw : U16At w aw ws) (hu : Hid (U16s ws)) (lw : ws.length ≤ 9223372036854775807) (hm : many ≤ 255) (hNb : N ≤ 1000) :
    Calls Try.prog 49 #[.agg #[.slice a p.sends.length c, .slice ar p.routes.length cr, .int .i64 p.pat], .slice at_ N ct, .slice aw ws.length cw, .int .u8 (many : Int), .int .u8 0] w fun e w' => (∃ ao co, e = .returned (.slice ao (many % 6) co) ∧ EntsAt w' ao (noteF J ws (many % 6))) ∧ Below w.heap.size w w' := by
  have plk := fun X (b : Below w.heap.size w X) => rplay_eq a c ar cr p X at_ t ct J N hJ hn (hs.below b) (hr.below b) (ht.below b) ok
  rw [hN.out] at plk
  have hmI : Int.tmod (many : Int) 6 = ((many % 6 : Nat) : Int) := rfl
  obtain ⟨M, hM⟩ : ∃ m, many % 6 = m := ⟨_, rfl⟩
  have hM6 : M < 6 := by omega
  rw [hM] at hmI ⊢
  have hwr : IntKind.i64.wrap (many : Int) = (many : Int) := IntWalk.i64_in _ (by omega)
  obtain ⟨W1, hW1⟩ : ∃ z : World, z = w.alloc (.cells #[.slice a p.sends.length c, .slice ar p.routes.length cr, .int .i64 p.pat] 25) := ⟨_, rfl⟩
  have t1 : Below w.heap.size w W1 := by rw [hW1]; exact (Below.refl _ _).alloc (Nat.le_refl _) _
  have C1 : Cells W1 w.heap.size #[.slice a p.sends.length c, .slice ar p.routes.length cr, .int .i64 p.pat] 25 := by rw [hW1]; exact Cells.new _ _ _
  have q0 := C1.cell 0
  have q1 := C1.cell 1
  have q2 := C1.cell 2
  have lq := C1.lt
  simp at q0 q1 q2
  have z1 := t1.size
  go_enter Try.func49, Try.ntmps49
  go_wp2_with fail
  rw [← hW1]
  clear hW1
  go_at_call 27
  refine (plk W1 t1).mono ?_
  rintro e W2 ⟨⟨aJ, cJ, rfl, hE⟩, b2⟩
  have t2 := t1.trans (b2.mono z1)
  have z2 := t2.size
  clear plk q0 q1 q2 C1 lq b2 t1 z1
  go_wp2
  go_loopw [12, 13] (fun v u wr => ∃ (k : Nat) (a' : Option Addr) (c' : Nat), k ≤ M ∧ u = .int .i64 k ∧ v = .slice a' k c' ∧ OwnL 93 3 W2.heap.size wr a' c' k (flatE (noteF J ws k)) ∧ Below W2.heap.size W2 wr) (fun _ u _ => M - (intOf u).toNat)
  case atStart => exact ⟨0, none, 0, Nat.zero_le _, rfl, rfl, OwnL.nil _ _ _ _, Below.refl _ _⟩
  case round =>
    obtain ⟨k, a', c', hk, rfl, rfl, hO, hb⟩ := hrel
    have zb := hb.size
    have tb := t2.trans (hb.mono z2)
    by_cases hkl : k < M
    · have hkI : (k : Int) < (M : Int) := by omega
      have hc1 : ((k + 5 : Nat) : Int) = (k : Int) + 5 := by omega
      have hwd := word_any aw ws cw (k + 5) wr (hw.below tb) hu.out lw (by omega)
      rw [hc1] at hwd
      have hq := wordN_le hu.out (k + 5)
      have hx : note1 J ws k = J.getD (wordN ws (k + 5) % J.length) ⟨0, 0, false⟩ := rfl
      rw [hn.out] at hx
      obtain ⟨q, hqe⟩ : ∃ q, wordN ws (k + 5) = q := ⟨_, rfl⟩
      rw [hqe] at hwd hq hx
      have hiN : q % N < N := Nat.mod_lt _ hpos
      have htm : Int.tmod (q : Int) (N : Int) = ((q % N : Nat) : Int) := rfl
      obtain ⟨i, hi⟩ : ∃ i, q % N = i := ⟨_, rfl⟩
      rw [hi] at hx hiN htm
      have hiI : (i : Int) < (N : Int) := by omega
      obtain ⟨bE, offE, rfl, hbE, e0, e1, e2⟩ := (hE.below hb) i (by rw [hn.out]; exact hiN)
      have hx2 : note1 J ws k = J[i]'(by rw [hn.out]; exact hiN) := by rw [hx, List.getD_eq_getElem?_getD, List.getElem?_eq_getElem (by rw [hn.out]; exact hiN)]; rfl
      obtain ⟨⟨x0, x1, x2⟩, hxe⟩ : ∃ x, J[i]'(by rw [hn.out]; exact hiN) = x := ⟨_, rfl⟩
      rw [hxe] at e0 e1 e2 hx2
      simp only at e0 e1 e2
      have HX := Lib.hid hx2
      have hNz : ((N : Int) == 0) = false := by rw [beq_eq_false_iff_ne]; omega
      clear hxe hx2 hx hqe hi hc1
      go_wp2_with fail
      go_at_call 84
      refine hwd.mono ?_
      rintro e _ ⟨rfl, rfl⟩
      clear hwd
      go_wp2_with (at_builtin; refine wpList_app_lit el_rentries rfl _ _ rfl W2.heap.size a' k c' _ rfl (hO.alloc _) 1 1 (by first | rfl | (show Value.slice _ _ _ = _; simp; done) | (simp; done)) rfl (fun u hu => by simp at hu; rcases hu with rfl | rfl | rfl <;> rfl) (by unfold maxLen; omega) (by omega) (by simp; omega) ?_; intro a6 c6 w7 hown7 hb7)
      go_roundw
      case rel => exact ⟨k + 1, a6, c6, by omega, by go_num, rfl, by rw [noteF_succ, flatE_snoc, HX.out]; exact hown7, (hb.trans (((Below.refl _ _).alloc (Nat.le_refl _) _).mono zb)).trans hb7⟩
      case measure => simp [intOf]; omega
    · obtain rfl : k = M := by omega
      go_wp2
      go_ret
      refine ⟨⟨a', c', rfl, ?_⟩, tb⟩
      exact OwnL.ents hO
end Go.Proofs.Ytfclemnkcpadpaa

namespace Go.Proofs.Ytfclemnkcpadpaa
set_option linter.unusedVariables false
set_option linter.unusedSimpArgs false
set_option linter.unnecessarySimpa false
open Go.RowKit Go.Flow

theorem comes_hr : ∀ (ls : List Leg) (ts : List Int) (s m : Nat) (S : Hrs), ts.length = ls.length → inB ts ls = true → ls.all legOk = true → S s = true → HrsLe S m → 30 ≤ m → m + 6 * ls.length ≤ 100 → ∃ q : Nat, comesF ls ts s = q ∧ ls.foldl (fun S l => legHr l S) S q = true
  | [], [], s, m, S, _, _, _, hS, _, _, _ => ⟨s, rfl, hS⟩
  | l :: ls, [], s, m, S, h, _, _, _, _, _, _ => by simp at h
  | [], t :: ts, s, m, S, h, _, _, _, _, _, _ => by simp at h
  | l :: ls, t :: ts, s, m, S, hl, hb, hok, hS, hle, h30, hm => by
    simp only [List.all_cons, Bool.and_eq_true] at hok
    rw [inB, Bool.and_eq_true] at hb
    obtain ⟨b1, b2⟩ := inR_iff.1 hb.1
    obtain ⟨k1, k2, k3, k4⟩ := legOk_iff.1 hok.1
    simp only [List.length_cons] at hl hm
    have h1 := hle s hS
    have hge : (s : Int) + t ≤ awk l ((s : Int) + t) := (awk_bd l _).1
    obtain ⟨a, ha⟩ : ∃ a : Nat, awk l ((s : Int) + t) = (a : Int) := ⟨(awk l ((s : Int) + t)).toNat, by omega⟩
    have hS2 : legHr l S a = true := legHr_iff.2 ⟨s, (t - l.lo).toNat, by omega, hS, by omega, by rw [show (s : Int) + l.lo + ((t - l.lo).toNat : Int) = s + t by omega]; exact ha⟩
    obtain ⟨q, e1, e2⟩ := comes_hr ls ts a (m + 6) (legHr l S) (by omega) hb.2 hok.2 hS2 (legHr_le hok.1 hle h30) (by omega) (by omega)
    refine ⟨q, ?_, e2⟩
    rw [comesF, ha]; exact e1

section
variable {p : Post} (h0 : postErr p = 0) {i : Nat} (hi : i < p.sends.length)
include h0 hi
theorem row_by {k : Nat} (hk : k < p.routes.length) {ts : List Int} (h1 : rowBad p.routes[k] ts = false) (h2 : inB ts p.routes[k].legs = true) : ∃ b : Nat, b ≤ 101 ∧ comeR p.routes[k] (p.sends.getD i 0) ts = b ∧ byF p i k b = true := by
  have hp := legs_pos h0 hk
  unfold rowBad at h1
  by_cases hz : ts = []
  · subst hz
    refine ⟨101, by omega, by simp [comeR], ?_⟩
    unfold byF lossyK
    rw [if_pos rfl, List.getElem?_eq_getElem hk]
    cases hy : p.routes[k].lossy
    · rw [hy] at h1; simp at h1; omega
    · simp [hy]
  · have h3 : decide (ts.length = 0) = false := by simp; exact hz
    rw [h3, Bool.and_false] at h1
    have hl : ts.length = p.routes[k].legs.length := by simpa using h1
    obtain ⟨l3, lok, _⟩ := post_legs h0 p.routes[k] (List.getElem_mem hk)
    have hs := (post_hours h0).s _ (List.getElem_mem hi)
    have e : p.sends.getD i 0 = p.sends[i] := by simp [hi]
    obtain ⟨s, hse⟩ : ∃ s : Nat, p.sends.getD i 0 = (s : Int) := ⟨(p.sends[i]).toNat, by rw [e]; omega⟩
    have hS : oneHr (p.sends.getD i 0) s = true := by unfold oneHr; rw [hse]; simp
    obtain ⟨q, e1, e2⟩ := comes_hr p.routes[k].legs ts s 30 (oneHr (p.sends.getD i 0)) hl h2 lok hS (fun n hn => by have : (n : Int) = p.sends.getD i 0 := of_decide_eq_true hn; rw [e] at this; omega) (by omega) (by omega)
    have hr : hrF p i k q = true := by unfold hrF routeHr; rw [List.getElem?_eq_getElem hk]; exact e2
    have hq := (post_hrs h0 hi hk).1 q hr
    refine ⟨q, by omega, ?_, ?_⟩
    · unfold comeR; rw [if_neg hz, hse]; exact e1
    · unfold byF; rw [if_neg (by omega)]; exact hr
theorem row_go {l : List (List Int)} (hl : l.length = p.routes.length) (hf : ∀ (j : Nat) (h1 : j < l.length) (h2 : j < p.routes.length), rowBad p.routes[j] l[j] = false ∧ inB l[j] p.routes[j].legs = true) : ∀ (d k g : Nat), k + d = p.routes.length → g ≤ 101 → comN p i k g = true → ∃ h : Nat, h ≤ 101 ∧ hourGo (p.sends.getD i 0) g (l.drop k) (p.routes.drop k) = h ∧ comF p i h = true
  | 0, k, g, hk, hg, hc => by
    refine ⟨g, hg, ?_, ?_⟩
    · rw [List.drop_eq_nil_of_le (by omega), List.drop_eq_nil_of_le (by omega)]; rfl
    · unfold comF; rw [← hk]; exact hc
  | d + 1, k, g, hk, hg, hc => by
    have k1 : k < l.length := by omega
    have k2 : k < p.routes.length := by omega
    obtain ⟨b, b1, b2, b3⟩ := row_by h0 hi k2 (hf k k1 k2).1 (hf k k1 k2).2
    rw [hourGo_step k1 k2, b2, show min (g : Int) (b : Int) = ((min g b : Nat) : Int) by omega]
    exact row_go hl hf d (k + 1) (min g b) (by omega) (by omega) ((comN_succ p i k _).2 ⟨g, b, hg, b1, hc, b3, rfl⟩)
theorem row_hour {l : List (List Int)} (hl : l.length = p.routes.length) (hf : ∀ (j : Nat) (h1 : j < l.length) (h2 : j < p.routes.length), rowBad p.routes[j] l[j] = false ∧ inB l[j] p.routes[j].legs = true) : ∃ h : Nat, h ≤ 101 ∧ hourGo (p.sends.getD i 0) 101 l p.routes = h ∧ canB p i h = true := by
  obtain ⟨h, h1, h2, h3⟩ := row_go h0 hi hl hf p.routes.length 0 101 (by omega) (by omega) (by simp [comN])
  refine ⟨h, h1, by simpa using h2, ?_⟩
  rw [← comF_can h0 hi h1]; exact h3
end
/-- A row fits the routes. -/
def RowFit (p : Post) (l : List (List Int)) : Prop := l.length = p.routes.length ∧ ∀ (j : Nat) (h1 : j < l.length) (h2 : j < p.routes.length), rowBad p.routes[j] l[j] = false ∧ inB l[j] p.routes[j].legs = true
theorem shape_fit {p : Post} {t : List (List (List Int))} (h : shapeErr p t = 0) : t.length = p.sends.length ∧ ∀ l ∈ t, RowFit p l := by
  unfold shapeErr at h
  split at h
  · cases h
  · rename_i hl
    exact ⟨by omega, fun l hm => (outE_ok t true h).2 l hm⟩
/-- The latest deadline of the first k. -/
def dlN (p : Post) : Nat → Int
  | 0 => 0
  | k + 1 => max (dlN p k) (p.sends.getD k 0 + p.pat)
/-- What holds of an entry of a journal behind hour f. -/
def EntIn (p : Post) (k : Nat) (f : Int) (e : Ent) : Prop := e.num = (k : Int) ∧ f ≤ e.at_ ∧ e.at_ ≤ dlN p (k + 1) ∧ (∃ n : Nat, e.at_ = n ∧ finS p [] (k + 1) n = true) ∧ (sureB p k = true → e.skip = false)
theorem play_in {p : Post} (h0 : postErr p = 0) : ∀ (t : List (List (List Int))) (i f : Nat), i + t.length = p.sends.length → (∀ l ∈ t, RowFit p l) → (f : Int) ≤ dlN p i → finS p [] i f = true →
    ∀ (q : Nat) (hq : q < t.length), ∃ e, (playGo p i f t)[q]? = some e ∧ EntIn p (i + q) (if q = 0 then (f : Int) else ((playGo p i f t).getD (q - 1) ⟨0, 0, false⟩).at_) e
  | [], i, f, _, _, _, _, q, hq => by simp at hq
  | l :: t, i, f, hi, hr, hf, hfS, q, hq => by
    simp only [List.length_cons] at hi hq
    have hil : i < p.sends.length := by omega
    obtain ⟨r1, r2⟩ := hr l (by simp)
    obtain ⟨h, hh, hgo, hc⟩ := row_hour h0 hil r1 r2
    have hs := (post_hours h0).s _ (List.getElem_mem hil)
    have hpat := (post_hours h0).p
    have e : p.sends.getD i 0 = p.sends[i] := by simp [hil]
    have hf60 := finS_le h0 [] i (by omega) f hfS
    rw [playGo, hgo]
    obtain ⟨n, hn⟩ : ∃ n : Nat, (recvF p i f h).at_ = (n : Int) := ⟨(recvF p i f h).at_.toNat, by simp only [recvF]; omega⟩
    have hnS : finS p [] (i + 1) n = true := by
      refine rowG_iff.2 ⟨f, h, by omega, by omega, hfS, ?_, ?_, ?_⟩
      · rw [comF_can h0 hil hh]; exact hc
      · simp [finT, fitsB]
      · unfold finM; rw [hn]; rfl
    have hnd : (n : Int) ≤ dlN p (i + 1) := by
      rw [← hn]; simp only [recvF, dlN]; omega
    cases q with
    | zero =>
      refine ⟨recvF p i f h, rfl, rfl, ?_, ?_, ⟨n, hn, hnS⟩, fun (hsu : sureB p i = true) => ?_⟩
      · rw [if_pos rfl]; simp only [recvF]; omega
      · rw [hn]; exact hnd
      · obtain ⟨m, m1, m2, m3, m4⟩ := latest_spec h0 hil
        have := m4 h hh hc
        unfold sureB at hsu
        have := of_decide_eq_true hsu
        simp only [recvF, decide_eq_false_iff_not]
        omega
    | succ q =>
      rw [hn]
      obtain ⟨x, x1, x2⟩ := play_in h0 t (i + 1) n (by omega) (fun l hl => hr l (by simp [hl])) hnd hnS q (by omega)
      refine ⟨x, by simpa using x1, ?_⟩
      rw [show i + (q + 1) = i + 1 + q by omega]
      rw [if_neg (by omega)]
      by_cases hq0 : q = 0
      · subst hq0
        simpa [hn] using x2
      · rw [if_neg hq0] at x2
        obtain ⟨q', rfl⟩ : ∃ q', q = q' + 1 := ⟨q - 1, by omega⟩
        simpa using x2
theorem next_play {p : Post} (h0 : postErr p = 0) {l : List Ent} : ∀ (t : List (List (List Int))) (i : Nat) (f : Int), i + t.length = p.sends.length → (∀ r ∈ t, RowFit p r) → (∀ q, q < t.length → ∀ e ∈ l, e.num = ((i + q : Nat) : Int) → (playGo p i f t)[q]? = some e) → (nextR p l t.length i f).isSome = true
  | [], i, f, _, _, _ => by simp [nextR]
  | r :: t, i, f, hi, hr, hl => by
    simp only [List.length_cons] at hi hl ⊢
    have hil : i < p.sends.length := by omega
    obtain ⟨r1, r2⟩ := hr r (by simp)
    obtain ⟨h, hh, hgo, hc⟩ := row_hour h0 hil r1 r2
    refine nextR_iff.2 ⟨h, by omega, hc, ?_, ?_⟩
    · unfold fitsB
      rw [Bool.not_eq_true', List.any_eq_false]
      intro e he
      by_cases hn : e.num = (i : Int)
      · have := hl 0 (by omega) e he (by simpa using hn)
        rw [playGo, hgo] at this
        simp at this
        rw [← this]; simp [wrongB, entNe]
      · simp [wrongB, hn]
    · refine next_play h0 t (i + 1) _ (by omega) (fun x hx => hr x (by simp [hx])) (fun q hq e he hn => ?_)
      have := hl (q + 1) (by omega) e he (by rw [hn]; congr 1; omega)
      rw [playGo, hgo] at this
      simpa using this
def prevAt (J : List Ent) (k : Nat) : Int := if k = 0 then 0 else (J.getD (k - 1) ⟨0, 0, false⟩).at_
structure JOk (p : Post) (J : List Ent) : Prop where
  len : J.length = p.sends.length
  num : ∀ k (h : k < J.length), J[k].num = (k : Int)
  prev : ∀ k (h : k < J.length), prevAt J k ≤ J[k].at_
  lo : ∀ k (h : k < J.length), (spanAt p k).1 ≤ J[k].at_
  hi : ∀ k (h : k < J.length), J[k].at_ ≤ (spanAt p k).2
  dl : ∀ k (h : k < J.length), J[k].at_ ≤ dlN p (k + 1)
  bd : ∀ k (h : k < J.length), 0 ≤ J[k].at_ ∧ J[k].at_ ≤ 60
  sure : ∀ k (h : k < J.length), sureB p k = true → J[k].skip = false
section
variable {p : Post} (h0 : postErr p = 0) {t : List (List (List Int))} (hs : shapeErr p t = 0)
include h0 hs
theorem play_ok : JOk p (playF p t) := by
  obtain ⟨hl, hr⟩ := shape_fit hs
  have hlen : (playF p t).length = p.sends.length := by rw [← hl]; exact playGo_len p t 0 0
  have key : ∀ k (h : k < (playF p t).length), EntIn p k (prevAt (playF p t) k) (playF p t)[k] := fun k h => by
    obtain ⟨e, e1, e2⟩ := play_in h0 t 0 0 (by omega) hr (by simp [dlN]) rfl k (by omega)
    have : (playF p t)[k]? = some e := e1
    rw [List.getElem?_eq_getElem h] at this
    cases this
    rw [Nat.zero_add] at e2
    exact e2
  have sp : ∀ k (h : k < (playF p t).length), (spanAt p k).1 ≤ (playF p t)[k].at_ ∧ (playF p t)[k].at_ ≤ (spanAt p k).2 ∧ 0 ≤ (playF p t)[k].at_ ∧ (playF p t)[k].at_ ≤ 60 := fun k h => by
    obtain ⟨_, _, _, ⟨n, n1, n2⟩, _⟩ := key k h
    obtain ⟨lo, hi, a1, a2, a3, _, _, a6⟩ := finS_ends h0 (k + 1) (by omega)
    have := a6 n n2
    unfold spanAt
    rw [a1, a2, n1]
    simp only
    omega
  exact ⟨hlen, fun k h => (key k h).1, fun k h => (key k h).2.1, fun k h => (sp k h).1, fun k h => (sp k h).2.1, fun k h => (key k h).2.2.1, fun k h => (sp k h).2.2, fun k h => (key k h).2.2.2.2⟩
theorem note_mem (ws : List Int) (n : Nat) : ∀ e ∈ noteF (playF p t) ws n, ∃ (k : Nat) (h : k < (playF p t).length), e = (playF p t)[k] := fun e he => by
  obtain ⟨k, _, rfl⟩ := List.mem_map.1 he
  have hne : 0 < (playF p t).length := by rw [(play_ok h0 hs).len]; exact List.length_pos_iff.2 (postErr_ok h0).2.2.2.1
  have hm : wordN ws (k + 5) % (playF p t).length < (playF p t).length := Nat.mod_lt _ hne
  exact ⟨_, hm, by unfold note1; rw [List.getD_eq_getElem?_getD, List.getElem?_eq_getElem hm]; rfl⟩
theorem note_book (ws : List Int) {n : Nat} (hn : n ≤ 8) : bookErr p (noteF (playF p t) ws n) = 0 := by
  unfold bookErr
  rw [if_neg (by simpa using h0), if_neg (by rw [noteF_len]; omega), if_pos]
  rw [List.all_eq_true]
  intro e he
  obtain ⟨k, h, rfl⟩ := note_mem h0 hs ws n e he
  have J := play_ok h0 hs
  have hl := J.len
  simp only [entOk, Bool.and_eq_true]
  exact ⟨inR_iff.2 (by rw [J.num k h]; omega), inR_iff.2 (by have := J.bd k h; omega)⟩
theorem note_expls (ws : List Int) (n : Nat) : explsB p t (noteF (playF p t) ws n) = true := by
  unfold explsB
  rw [List.all_eq_true]
  intro e he
  obtain ⟨k, h, rfl⟩ := note_mem h0 hs ws n e he
  unfold explOk
  rw [(play_ok h0 hs).num k h]
  simp [h]
theorem note_search (ws : List Int) (n : Nat) : (searchF p (noteF (playF p t) ws n)).isSome = true := by
  obtain ⟨hl, hr⟩ := shape_fit hs
  unfold searchF
  rw [← hl]
  refine next_play h0 t 0 0 (by omega) hr (fun q hq e he hn => ?_)
  obtain ⟨k, h, rfl⟩ := note_mem h0 hs ws n e he
  have hk : (k : Int) = ((0 + q : Nat) : Int) := by rw [← (play_ok h0 hs).num k h]; exact hn
  obtain rfl : k = q := by omega
  exact List.getElem?_eq_getElem h
end
theorem leave_none {p : Post} {l : List Ent} (hz : (searchF p l).isSome = true) : ∀ (r i : Nat), i + r = l.length → leaveR p l r i [] (l.take i) 0 = some []
  | 0, i, h => by
    rw [leaveR, if_neg (by omega), List.take_of_length_le (by omega), if_pos hz]
  | r + 1, i, h => by
    rw [leaveR, if_neg (by omega)]
    simp only [Nat.lt_irrefl, if_false]
    have hi : i < l.length := by omega
    rw [show l.take i ++ [l.getD i ⟨0, 0, false⟩] = l.take (i + 1) by rw [List.take_succ_eq_append_getElem hi]; simp [hi]]
    exact leave_none hz r (i + 1) (by omega)
theorem odd_none {p : Post} {l : List Ent} (hz : (searchF p l).isSome = true) : oddF p l = [] := by
  refine oddF_some (k := 0) (by omega) (fun j hj => by omega) ?_
  exact leave_none hz l.length 0 (by omega)
end Go.Proofs.Ytfclemnkcpadpaa

namespace Go.Proofs.Ytfclemnkcpadpaa
set_option linter.unusedVariables false
set_option linter.unusedSimpArgs false
set_option linter.unnecessarySimpa false
open Go.RowKit Go.Flow Go.Shelf

theorem info_rrange : (Try.prog.info? 64).map (fun i => (i.zero, i.size, i.bytes)) = some (some (.agg #[.int .i64 0, .int .i64 0]), 2, 16) := by kernel_rfl
theorem el_rranges : Elem Try.prog 84 64 (.agg #[.int .i64 0, .int .i64 0]) 2 16 := ⟨Try.underlying84, info_parts info_rrange, rfl, by decide⟩
theorem info_rleg : (Try.prog.info? 86).map (fun i => (i.zero, i.size, i.bytes)) = some (some (.agg #[.int .i64 0, .int .i64 0, .slice none 0 0]), 3, 40) := by kernel_rfl
theorem el_rlegs : Elem Try.prog 52 86 (.agg #[.int .i64 0, .int .i64 0, .slice none 0 0]) 3 40 := ⟨Try.underlying52, info_parts info_rleg, rfl, by decide⟩
theorem info_rroute : (Try.prog.info? 54).map (fun i => (i.zero, i.size, i.bytes)) = some (some (.agg #[.slice none 0 0, .bool false]), 2, 32) := by kernel_rfl
theorem el_rroutes : Elem Try.prog 23 54 (.agg #[.slice none 0 0, .bool false]) 2 32 := ⟨Try.underlying23, info_parts info_rroute, rfl, by decide⟩

def RAslOwn (B : Nat) (w : World) (p : Option Addr × Nat) (l : Leg) : Prop := OwnL 64 2 B w p.1 p.2 l.asl.length (flat2 l.asl)
def RLegsOwn (B : Nat) (w : World) (p : Option Addr × Nat) (ls : List Leg) (n : Nat) : Prop := NestOwn 86 3 legV (RAslOwn B) B w p.1 p.2 ls n
def RRoutesOwn (B : Nat) (w : World) (p : Option Addr × Nat) (rs : List Route) (n : Nat) : Prop := NestOwn 54 2 routeV (fun w p r => RLegsOwn B w p r.legs r.legs.length) B w p.1 p.2 rs n
theorem RAslOwn.kept {B : Nat} {w w' : World} {p : Option Addr × Nat} {x : Leg} (h : RAslOwn B w p x) (hb : Below w.heap.size w w') : RAslOwn B w' p x := OwnL.kept h hb
theorem RLegsOwn.kept {B : Nat} {w w' : World} {p : Option Addr × Nat} {l : List Leg} {n : Nat} (h : RLegsOwn B w p l n) (hb : Below w.heap.size w w') : RLegsOwn B w' p l n := NestOwn.kept h hb fun _ _ h => h.kept hb
theorem RLegsOwn.base_le {B B' : Nat} {w : World} {p : Option Addr × Nat} {l : List Leg} {n : Nat} (h : RLegsOwn B w p l n) (hb : B' ≤ B) : RLegsOwn B' w p l n := (NestOwn.base_le h hb).sub fun _ _ h => OwnL.base_le h hb
theorem RRoutesOwn.kept {B : Nat} {w w' : World} {p : Option Addr × Nat} {l : List Route} {n : Nat} (h : RRoutesOwn B w p l n) (hb : Below w.heap.size w w') : RRoutesOwn B w' p l n := NestOwn.kept h hb fun _ _ h => h.kept hb
theorem RLegsOwn.at {B : Nat} {w : World} {p : Option Addr × Nat} {l : List Leg} (h : RLegsOwn B w p l l.length) : LegsAt w p.1 l := fun k hk => by
  obtain ⟨g, q, ha, hlt, hs, hc⟩ := NestOwn.at h (fun _ _ => rfl) (by omega) k hk
  refine ⟨g, 0, q.1, q.2, ha, hlt, ?_, ?_, ?_, OwnL.recs2 hs⟩
  · have := hc 0 _ (by omega) rfl
    rw [Nat.zero_add]; simpa using this
  · have := hc 1 _ (by omega) rfl
    rw [Nat.zero_add]; simpa using this
  · have := hc 2 _ (by omega) rfl
    rw [Nat.zero_add]; simpa using this
theorem RRoutesOwn.at {B : Nat} {w : World} {p : Option Addr × Nat} {l : List Route} (h : RRoutesOwn B w p l l.length) : RoutesAt w p.1 l := fun k hk => by
  obtain ⟨g, q, ha, hlt, hs, hc⟩ := NestOwn.at h (fun _ _ => rfl) (by omega) k hk
  refine ⟨g, 0, q.1, q.2, ha, hlt, ?_, ?_, hs.at⟩
  · have := hc 0 _ (by omega) rfl
    rw [Nat.zero_add]; simpa using this
  · have := hc 1 _ (by omega) rfl
    rw [Nat.zero_add]; simpa using this
/-- A store into a block of another type. -/
theorem RLegsOwn.setAt {B : Nat} {w : World} {p : Option Addr × Nat} {l : List Leg} {n : Nat} (h : RLegsOwn B w p l n) {g : Nat} {cs : Array Value} {T : TypeId} (hc : Cells w g cs T) (h1 : T ≠ 86) (h2 : T ≠ 64) (k : Nat) (v : Value) : RLegsOwn B (w.setCell ⟨g, k, none⟩ v) p l n := by
  obtain ⟨ps, q1, q2, q3⟩ := h
  exact ⟨ps, q1, q2.setAt hc h1 k v, fun q x p hx hp => OwnL.setAt (q3 q x p hx hp) hc h2 k v⟩
theorem RRoutesOwn.setAt {B : Nat} {w : World} {p : Option Addr × Nat} {l : List Route} {n : Nat} (h : RRoutesOwn B w p l n) {g : Nat} {cs : Array Value} {T : TypeId} (hc : Cells w g cs T) (h0 : T ≠ 54) (h1 : T ≠ 86) (h2 : T ≠ 64) (k : Nat) (v : Value) : RRoutesOwn B (w.setCell ⟨g, k, none⟩ v) p l n := by
  obtain ⟨ps, q1, q2, q3⟩ := h
  exact ⟨ps, q1, q2.setAt hc h0 k v, fun q x p hx hp => (q3 q x p hx hp).setAt hc h1 h2 k v⟩

section
variable {a : Option Addr} {c : Nat} {ar : Option Addr} {cr : Nat} {X : Post} {w : World} {N R : Nat} {pt : Int} (hN : Hid (X.sends.length = N)) (hR : Hid (X.routes.length = R)) (hp : Hid (X.pat = pt))
include hN hR hp
theorem faultN_eq (E : Int) (h : Hid (postErr X = E)) (hs : IntsAt w a X.sends) (hr : RoutesAt w ar X.routes) (sm : Hid (PostSmall X)) :
    Calls Try.prog 24 #[.agg #[.slice a N c, .slice ar R cr, .int .i64 pt]] w fun e w' => e = .returned (.int .i64 E) ∧ Below w.heap.size w w' := by
  obtain ⟨rfl⟩ := hN; obtain ⟨rfl⟩ := hR; obtain ⟨rfl⟩ := hp
  exact fault_eq a c ar cr X w E h hs hr sm
theorem readyN_eq (B : Bool) (h : Hid (readyB X = B)) (hs : IntsAt w a X.sends) (hr : RoutesAt w ar X.routes) (big : PostBig X) :
    Calls Try.prog 44 #[.agg #[.slice a N c, .slice ar R cr, .int .i64 pt]] w fun e w' => e = .returned (.bool B) ∧ Below w.heap.size w w' := by
  obtain ⟨rfl⟩ := hN; obtain ⟨rfl⟩ := hR; obtain ⟨rfl⟩ := hp
  exact ready_eq a c ar cr X w B h hs hr big
theorem postN_eq (hs : IntsAt w a X.sends) (hr : RoutesAt w ar X.routes) (sm : Hid (PostSmall X)) (na : a = none → c = 0) :
    Calls Try.prog 21 #[.agg #[.slice a N c, .slice ar R cr, .int .i64 pt]] w fun e w' => (∃ a c ar cr, e = .returned (.agg #[.slice a N c, .slice ar R cr, .int .i64 pt]) ∧ IntsAt w' a X.sends ∧ RoutesAt w' ar X.routes) ∧ Below w.heap.size w w' := by
  obtain ⟨rfl⟩ := hN; obtain ⟨rfl⟩ := hR; obtain ⟨rfl⟩ := hp
  exact post_eq a c ar cr X w hs hr sm na
theorem hoursN_eq (i r : Int) (E : Int) (O : List Int) (n : Nat) (hE : Hid (hoursErr X i r = E)) (hO : Hid (hoursOut X i r = O)) (hn : Hid (O.length = n)) (hs : IntsAt w a X.sends) (hr : RoutesAt w ar X.routes) (sm : Hid (PostSmall X)) :
    Calls Try.prog 28 #[.agg #[.slice a N c, .slice ar R cr, .int .i64 pt], .int .i64 i, .int .i64 r] w fun e w' => (∃ a c, e = .returned (.tuple #[.slice a n c, .int .i64 E]) ∧ IntsAt w' a O) ∧ Below w.heap.size w w' := by
  obtain ⟨rfl⟩ := hN; obtain ⟨rfl⟩ := hR; obtain ⟨rfl⟩ := hp
  exact hours_eq a c ar cr X w i r E O n hE hO hn hs hr sm
theorem spansN_eq (E : Int) (O : List (Int × Int)) (n : Nat) (hE : Hid (postErr X = E)) (hO : Hid (spansOut X = O)) (hn : Hid (O.length = n)) (hs : IntsAt w a X.sends) (hr : RoutesAt w ar X.routes) (sm : Hid (PostSmall X)) :
    Calls Try.prog 32 #[.agg #[.slice a N c, .slice ar R cr, .int .i64 pt]] w fun e w' => (∃ a c, e = .returned (.tuple #[.slice a n c, .int .i64 E]) ∧ Recs2At w' a O) ∧ Below w.heap.size w w' := by
  obtain ⟨rfl⟩ := hN; obtain ⟨rfl⟩ := hR; obtain ⟨rfl⟩ := hp
  exact spans_eq a c ar cr X w E O n hE hO hn hs hr sm
theorem sureN_eq (E : Int) (O : List Int) (n : Nat) (hE : Hid (postErr X = E)) (hO : Hid (sureOut X = O)) (hn : Hid (O.length = n)) (hs : IntsAt w a X.sends) (hr : RoutesAt w ar X.routes) (sm : Hid (PostSmall X)) :
    Calls Try.prog 33 #[.agg #[.slice a N c, .slice ar R cr, .int .i64 pt]] w fun e w' => (∃ a c, e = .returned (.tuple #[.slice a n c, .int .i64 E]) ∧ IntsAt w' a O) ∧ Below w.heap.size w w' := by
  obtain ⟨rfl⟩ := hN; obtain ⟨rfl⟩ := hR; obtain ⟨rfl⟩ := hp
  exact sure_eq a c ar cr X w E O n hE hO hn hs hr sm
end
theorem u8_bd {y : Int} (h : (Lit.int .u8 y).wf = true) : ∃ m : Nat, y = (m : Int) ∧ m ≤ 255 := by
  have : 0 ≤ y ∧ y ≤ 255 := by simp [Lit.wf, IntKind.min, IntKind.max, IntKind.bits, IntKind.signed] at h; omega
  exact ⟨y.toNat, by omega, by omega⟩
end Go.Proofs.Ytfclemnkcpadpaa
