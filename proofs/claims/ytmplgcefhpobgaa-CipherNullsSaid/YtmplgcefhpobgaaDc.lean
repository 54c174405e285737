/- cipher: Fault -/
import Derived.Test.YtmplgcefhpobgaaDb
namespace Go.Proofs.Ytmplgcefhpobgaa
set_option linter.unusedVariables false
set_option linter.unusedSimpArgs false
set_option linter.unnecessarySimpa false
open Go.RowKit Go.Flow

theorem isPrime_small : ∀ n : Nat, n < 42 → 13 ≤ n → isPrime (n : Int) = primeTo n n := by decide
theorem isPrime_b {s : Int} (h : isPrime s = true) : 13 ≤ s ∧ s ≤ 41 := by
  unfold isPrime primeL at h
  simp at h
  omega
theorem isPrime_iff {s : Int} : isPrime s = true ↔ (13 ≤ s ∧ s ≤ 41) ∧ primeTo s.toNat s.toNat = true := by
  constructor
  · intro h
    have hb := isPrime_b h
    obtain ⟨n, rfl⟩ := Int.eq_ofNat_of_zero_le (show 0 ≤ s by omega)
    refine ⟨hb, ?_⟩
    rw [Int.toNat_natCast, ← isPrime_small n (by omega) (by omega)]
    exact h
  · rintro ⟨hb, h⟩
    obtain ⟨n, rfl⟩ := Int.eq_ofNat_of_zero_le (show 0 ≤ s by omega)
    rw [Int.toNat_natCast] at h
    rw [isPrime_small n (by omega) (by omega)]
    exact h
theorem bookErr_3 {s wo : Int} {ks : List K3} {ds : List Int} (h : 5 < (ks.length : Int) ∨ 8 < (ds.length : Int)) : bookErr s wo ks ds = 3 := if_pos h
theorem bookErr_1 {s wo : Int} {ks : List K3} {ds : List Int} (h : ¬ (5 < (ks.length : Int) ∨ 8 < (ds.length : Int))) (h2 : ¬ (isPrime s = true ∧ (1 ≤ wo ∧ wo ≤ s) ∧ ks ≠ [] ∧ ds ≠ [] ∧ ks.all (keyOk s) = true ∧ ds.all (ownOk ks.length) = true)) : bookErr s wo ks ds = 1 := by
  unfold bookErr
  rw [if_neg h, if_neg]
  rintro ⟨h3, h4, h5⟩
  exact h2 ⟨isPrime_iff.2 ⟨h3, h4⟩, h5⟩
theorem bookErr_0 {s wo : Int} {ks : List K3} {ds : List Int} (h : ¬ (5 < (ks.length : Int) ∨ 8 < (ds.length : Int))) (h2 : isPrime s = true) (h3 : 1 ≤ wo ∧ wo ≤ s) (h4 : ks ≠ []) (h5 : ds ≠ []) (h6 : ks.all (keyOk s) = true) (h7 : ds.all (ownOk ks.length) = true) : bookErr s wo ks ds = 0 := by
  unfold bookErr
  obtain ⟨a, b⟩ := isPrime_iff.1 h2
  rw [if_neg h, if_pos ⟨a, b, h3, h4, h5, h6, h7⟩]

theorem BookAt.of {w wr : World} {s wo : Int} {ak : Option Addr} {nk ck : Nat} {ad : Option Addr} {nd cd : Nat} {T : TypeId} (hb : Below (w.heap.size + 1) (w.alloc (.cells #[.int .i64 s, .int .i64 wo, .slice ak nk ck, .slice ad nd cd] T)) wr) : BookAt wr w.heap.size s wo ak nk ck ad nd cd := by
  have h := BookAt.new w s wo ak nk ck ad nd cd T
  exact ⟨(hb.cell (p := ⟨w.heap.size, 0, none⟩) (by simp)).trans h.c0, (hb.cell (p := ⟨w.heap.size, 1, none⟩) (by simp)).trans h.c1, (hb.cell (p := ⟨w.heap.size, 2, none⟩) (by simp)).trans h.c2, (hb.cell (p := ⟨w.heap.size, 3, none⟩) (by simp)).trans h.c3⟩
theorem isKey_eq (s wo m a st : Int) (ks ds : Value) (r : Bool) (h : Hid (keyOk s (m, a, st) = r)) (w : World) (h0 : 0 ≤ s) (h1 : s ≤ 1000) :
    Calls Try.prog 88 #[.agg #[.int .i64 s, .int .i64 wo, ks, ds], .agg #[.int .i64 m, .int .i64 a, .int .i64 st]] w fun e w' => e = .returned (.bool r) ∧ Below w.heap.size w w' := by
  rw [← h.out]; exact isKey_any s wo m a st ks ds w h0 h1

set_option maxHeartbeats 2000000 in
theorem refFault_any (s wo : Int) (ak : Option Addr) (ks : List (Int × Int × Int)) (ck : Nat) (ad : Option Addr) (ds : List Int) (cd : Nat) (w : World) (hk : Recs3At w ak ks) (hd : IntsAt w ad ds) (lk : ks.length ≤ 1000) (ld : ds.length ≤ 1000) :
    Calls Try.prog 62 #[.agg #[.int .i64 s, .int .i64 wo, .slice ak ks.length ck, .slice ad ds.length cd]] w fun e w' => e = .returned (.int .i64 (bookErr s wo ks ds)) ∧ Below w.heap.size w w' := by
  by_cases hbig : 5 < (ks.length : Int) ∨ 8 < (ds.length : Int)
  · have Hr := Lib.hid (bookErr_3 (s := s) (wo := wo) hbig)
    by_cases h5 : 5 < (ks.length : Int)
    · clear hbig
      go_enter Try.func62, Try.ntmps62
      go_wp2
      go_ret
      rw [Hr.out]
      exact ⟨rfl, by (repeat (first | exact Below.refl _ _ | refine Below.alloc ?_ (by first | omega | (simp; done) | (simp; omega)) _ | refine Below.drew ?_ | refine Below.setCell ?_ (by first | omega | (simp; done) | (simp; omega)) _ | refine Below.trans ?_ (Below.mono (by assumption) (by first | omega | (simp; done) | (simp; omega)))))⟩
    · have h8 : 8 < (ds.length : Int) := by omega
      clear hbig
      go_enter Try.func62, Try.ntmps62
      go_wp2
      go_ret
      rw [Hr.out]
      exact ⟨rfl, by (repeat (first | exact Below.refl _ _ | refine Below.alloc ?_ (by first | omega | (simp; done) | (simp; omega)) _ | refine Below.drew ?_ | refine Below.setCell ?_ (by first | omega | (simp; done) | (simp; omega)) _ | refine Below.trans ?_ (Below.mono (by assumption) (by first | omega | (simp; done) | (simp; omega)))))⟩
  · have h5 : ¬ 5 < (ks.length : Int) := by omega
    have h8 : ¬ 8 < (ds.length : Int) := by omega
    cases hp : isPrime s
    · have Hr := Lib.hid (bookErr_1 (s := s) (wo := wo) hbig (by simp [hp]))
      clear hbig
      go_enter Try.func62, Try.ntmps62
      go_wp2_with (go_at_call 87; refine (refPrime_any _ _).mono ?_; rintro e w1 ⟨rfl, hb1⟩; obtain ⟨hc1, hf1, hz1⟩ := bcell hb1; (try simp at hz1); (try (have hy0 : w.heap.size < w1.heap.size := by omega)); (try (have hy1 : w.heap.size + 1 < w1.heap.size := by omega)); (try (have hy2 : w.heap.size + 2 < w1.heap.size := by omega)))
      go_ret
      rw [Hr.out]
      exact ⟨rfl, by (repeat (first | exact Below.refl _ _ | refine Below.alloc ?_ (by first | omega | (simp; done) | (simp; omega)) _ | refine Below.drew ?_ | refine Below.setCell ?_ (by first | omega | (simp; done) | (simp; omega)) _ | refine Below.trans ?_ (Below.mono (by assumption) (by first | omega | (simp; done) | (simp; omega)))))⟩
    · by_cases hwo : 1 ≤ wo ∧ wo ≤ s
      · by_cases hk0 : ks = []
        · have Hr := Lib.hid (bookErr_1 (s := s) (wo := wo) hbig (by simp [hk0]))
          have t1 : ((ks.length : Int) == 0) = true := by simp [hk0]
          have HI : Hid ((decide (1 ≤ wo) && decide (wo ≤ s)) = true) := Lib.hid (by simp [hwo])
          clear hbig hwo hk0
          go_enter Try.func62, Try.ntmps62
          go_wp2_with (first | (go_at_call 87; refine (refPrime_any _ _).mono ?_; rintro e w1 ⟨rfl, hb1⟩; obtain ⟨hc1, hf1, hz1⟩ := bcell hb1; (try simp at hz1); (try (have hy0 : w.heap.size < w1.heap.size := by omega)); (try (have hy1 : w.heap.size + 1 < w1.heap.size := by omega)); (try (have hy2 : w.heap.size + 2 < w1.heap.size := by omega))) | (go_at_call 23; refine (in_eq wo 1 s _ HI _).mono ?_; rintro e w1 ⟨rfl, rfl⟩))
          go_ret
          rw [Hr.out]
          exact ⟨rfl, by (repeat (first | exact Below.refl _ _ | refine Below.alloc ?_ (by first | omega | (simp; done) | (simp; omega)) _ | refine Below.drew ?_ | refine Below.setCell ?_ (by first | omega | (simp; done) | (simp; omega)) _ | refine Below.trans ?_ (Below.mono (by assumption) (by first | omega | (simp; done) | (simp; omega)))))⟩
        · by_cases hd0 : ds = []
          · have Hr := Lib.hid (bookErr_1 (s := s) (wo := wo) (ks := ks) hbig (by simp [hd0]))
            have t1 : ((ks.length : Int) == 0) = false := by simp [hk0]
            have t2 : ((ds.length : Int) == 0) = true := by simp [hd0]
            have HI : Hid ((decide (1 ≤ wo) && decide (wo ≤ s)) = true) := Lib.hid (by simp [hwo])
            clear hbig hwo hk0 hd0
            go_enter Try.func62, Try.ntmps62
            go_wp2_with (first | (go_at_call 87; refine (refPrime_any _ _).mono ?_; rintro e w1 ⟨rfl, hb1⟩; obtain ⟨hc1, hf1, hz1⟩ := bcell hb1; (try simp at hz1); (try (have hy0 : w.heap.size < w1.heap.size := by omega)); (try (have hy1 : w.heap.size + 1 < w1.heap.size := by omega)); (try (have hy2 : w.heap.size + 2 < w1.heap.size := by omega))) | (go_at_call 23; refine (in_eq wo 1 s _ HI _).mono ?_; rintro e w1 ⟨rfl, rfl⟩))
            go_ret
            rw [Hr.out]
            exact ⟨rfl, by (repeat (first | exact Below.refl _ _ | refine Below.alloc ?_ (by first | omega | (simp; done) | (simp; omega)) _ | refine Below.drew ?_ | refine Below.setCell ?_ (by first | omega | (simp; done) | (simp; omega)) _ | refine Below.trans ?_ (Below.mono (by assumption) (by first | omega | (simp; done) | (simp; omega)))))⟩
          · have t1 : ((ks.length : Int) == 0) = false := by simp [hk0]
            have t2 : ((ds.length : Int) == 0) = false := by simp [hd0]
            have HI : Hid ((decide (1 ≤ wo) && decide (wo ≤ s)) = true) := Lib.hid (by simp [hwo])
            obtain ⟨s0, s1⟩ := isPrime_b hp
            have Hbig := Lib.hid hbig
            have Hwo := Lib.hid hwo
            have Hp := Lib.hid hp
            have Hk0 := Lib.hid hk0
            have Hd0 := Lib.hid hd0
            clear hbig hwo hk0 hd0
            go_enter Try.func62, Try.ntmps62
            go_wp2_with (first | (go_at_call 87; refine (refPrime_any _ _).mono ?_; rintro e w1 ⟨rfl, hb1⟩; obtain ⟨hc1, hf1, hz1⟩ := bcell hb1; (try simp at hz1); (try (have hy0 : w.heap.size < w1.heap.size := by omega)); (try (have hy1 : w.heap.size + 1 < w1.heap.size := by omega)); (try (have hy2 : w.heap.size + 2 < w1.heap.size := by omega))) | (go_at_call 23; refine (in_eq wo 1 s _ HI _).mono ?_; rintro e w1 ⟨rfl, rfl⟩))
            have hwB : Below w.heap.size w w1 := by (repeat (first | exact Below.refl _ _ | refine Below.alloc ?_ (by first | omega | (simp; done) | (simp; omega)) _ | refine Below.drew ?_ | refine Below.setCell ?_ (by first | omega | (simp; done) | (simp; omega)) _ | refine Below.trans ?_ (Below.mono (by assumption) (by first | omega | (simp; done) | (simp; omega)))))
            have hb1' : Below (w.heap.size + 1) (w.alloc (.cells #[.int .i64 s, .int .i64 wo, .slice ak ks.length ck, .slice ad ds.length cd] 25)) w1 := hb1.mono (by simp)
            clear hb1 hc1 hf1 hp
            go_loopw [3] (fun i wr => ∃ k : Nat, k ≤ ks.length ∧ i = .int .i64 k ∧ (ks.take k).all (keyOk s) = true ∧ Below (w.heap.size + 1) (w.alloc (.cells #[.int .i64 s, .int .i64 wo, .slice ak ks.length ck, .slice ad ds.length cd] 25)) wr) (fun i _ => ks.length - (intOf i).toNat)
            case atStart => exact ⟨0, Nat.zero_le _, rfl, rfl, hb1'⟩
            case round =>
              obtain ⟨k, hkk, rfl, hall, hb⟩ := hrel
              have Hall := Lib.hid hall
              clear hall hb1'
              have hBr := BookAt.of hb
              have hwr : Below w.heap.size w wr := Below.trans (by (repeat (first | exact Below.refl _ _ | refine Below.alloc ?_ (by first | omega | (simp; done) | (simp; omega)) _ | refine Below.drew ?_ | refine Below.setCell ?_ (by first | omega | (simp; done) | (simp; omega)) _ | refine Below.trans ?_ (Below.mono (by assumption) (by first | omega | (simp; done) | (simp; omega)))))) (hb.mono (by omega))
              have hz := hBr.lt
              obtain ⟨q0, q1, q2, q3⟩ := hBr
              by_cases hlt : k < ks.length
              · obtain ⟨b, off, rfl, hbl, c0, c1, c2⟩ := (hk.below hwr) k hlt
                have hltI : (k : Int) < (ks.length : Int) := by omega
                obtain ⟨⟨m, a, st⟩, hx⟩ : ∃ x, ks[k] = x := ⟨_, rfl⟩
                rw [hx] at c0 c1 c2
                simp only at c0 c1 c2
                cases hko : keyOk s (m, a, st)
                · have Hr := Lib.hid (bookErr_1 (s := s) (wo := wo) (ks := ks) (ds := ds) Hbig.out (fun h => by have := List.all_eq_true.1 h.2.2.2.2.1 ks[k] (List.getElem_mem hlt); rw [hx, hko] at this; cases this))
                  have Hko := Lib.hid hko
                  clear hx hko
                  go_wp2
                  (refine wp_region_ext 8 (by kernel_rfl) (by kernel_rfl) ?_; simp only [List.take_succ_cons, List.take_zero, List.drop_succ_cons, List.drop_zero]; (repeat (go_big_quiet_step (((go_at_call 88; refine Calls_ext (isKey_eq s wo m a st _ _ _ Hko _ (by omega) (by omega))))))); refine wpQuiet_nil ?_; rintro _ ⟨ex, rfl⟩; have hex := ex.below; have hexz := ex.size; (try simp at hexz); (try (have hy0 : w.heap.size < ex.to.heap.size := by omega)); (try (have hy1 : w.heap.size + 1 < ex.to.heap.size := by omega)); (try (have hy2 : w.heap.size + 2 < ex.to.heap.size := by omega)))
                  go_wp2
                  go_ret
                  rw [Hr.out]
                  exact ⟨rfl, hwr.trans (ex.below.mono hwr.size)⟩
                · have Hr := Lib.hid (all_take_succ (p := keyOk s) hlt Hall.out (by rw [hx]; exact hko))
                  have Hko := Lib.hid hko
                  clear hx hko
                  go_wp2
                  (refine wp_region_ext 8 (by kernel_rfl) (by kernel_rfl) ?_; simp only [List.take_succ_cons, List.take_zero, List.drop_succ_cons, List.drop_zero]; (repeat (go_big_quiet_step (((go_at_call 88; refine Calls_ext (isKey_eq s wo m a st _ _ _ Hko _ (by omega) (by omega))))))); refine wpQuiet_nil ?_; rintro _ ⟨ex, rfl⟩; have hex := ex.below; have hexz := ex.size; (try simp at hexz); (try (have hy0 : w.heap.size < ex.to.heap.size := by omega)); (try (have hy1 : w.heap.size + 1 < ex.to.heap.size := by omega)); (try (have hy2 : w.heap.size + 2 < ex.to.heap.size := by omega)))
                  go_wp2
                  go_roundw
                  case rel => exact ⟨k + 1, by omega, by go_num, Hr.out, hb.trans (ex.below.mono (by omega))⟩
                  case measure => simp [intOf]; omega
              · have Hka := Lib.hid (all_of_take (p := keyOk s) (by omega) Hall.out)
                obtain rfl : k = ks.length := by omega
                clear Hall
                go_wp2
                clear q0 q1 q2 q3 hz
                obtain ⟨wo1, hwo1⟩ : ∃ x : World, x = wr := ⟨_, rfl⟩
                subst hwo1
                go_loopw [4] (fun i wr => ∃ k : Nat, k ≤ ds.length ∧ i = .int .i64 k ∧ (ds.take k).all (ownOk ks.length) = true ∧ Below (w.heap.size + 1) (w.alloc (.cells #[.int .i64 s, .int .i64 wo, .slice ak ks.length ck, .slice ad ds.length cd] 25)) wr) (fun i _ => ds.length - (intOf i).toNat)
                case atStart => exact ⟨0, Nat.zero_le _, rfl, rfl, hb⟩
                case round =>
                  obtain ⟨k, hkk2, rfl, hall, hb3⟩ := hrel
                  have Hall := Lib.hid hall
                  clear hall hb
                  have hBr := BookAt.of hb3
                  have hwr3 : Below w.heap.size w wr := Below.trans (by (repeat (first | exact Below.refl _ _ | refine Below.alloc ?_ (by first | omega | (simp; done) | (simp; omega)) _ | refine Below.drew ?_ | refine Below.setCell ?_ (by first | omega | (simp; done) | (simp; omega)) _ | refine Below.trans ?_ (Below.mono (by assumption) (by first | omega | (simp; done) | (simp; omega)))))) (hb3.mono (by omega))
                  have hz := hBr.lt
                  obtain ⟨q0, q1, q2, q3⟩ := hBr
                  by_cases hlt : k < ds.length
                  · obtain ⟨b, off, rfl, hbl, c0⟩ := (hd.below hwr3) k hlt
                    have hltI : (k : Int) < (ds.length : Int) := by omega
                    have c0' : wr.cell? ⟨b, off + k, none⟩ = some (.int .i64 ds[k]) := c0.trans (by simp [hlt])
                    obtain ⟨x, hx⟩ : ∃ x, ds[k] = x := ⟨_, rfl⟩
                    rw [hx] at c0'
                    clear c0
                    cases hko : ownOk ks.length x
                    · have Hr := Lib.hid (bookErr_1 (s := s) (wo := wo) (ks := ks) (ds := ds) Hbig.out (fun h => by have := List.all_eq_true.1 h.2.2.2.2.2 ds[k] (List.getElem_mem hlt); rw [hx, hko] at this; cases this))
                      have Hko : Hid ((decide (0 ≤ x) && decide (x ≤ (ks.length : Int) - 1)) = false) := Lib.hid hko
                      clear hx hko
                      go_wp2
                      (refine wp_region_ext 11 (by kernel_rfl) (by kernel_rfl) ?_; simp only [List.take_succ_cons, List.take_zero, List.drop_succ_cons, List.drop_zero]; (repeat (go_big_quiet_step (((go_at_call 23; refine Calls_ext_same (in_eq x 0 ((ks.length : Int) - 1) _ Hko _)))))); refine wpQuiet_nil ?_; rintro _ ⟨ex, rfl⟩; have hex := ex.below; have hexz := ex.size; (try simp at hexz); (try (have hy0 : w.heap.size < ex.to.heap.size := by omega)); (try (have hy1 : w.heap.size + 1 < ex.to.heap.size := by omega)); (try (have hy2 : w.heap.size + 2 < ex.to.heap.size := by omega)))
                      go_wp2
                      go_ret
                      rw [Hr.out]
                      exact ⟨rfl, hwr3.trans (ex.below.mono hwr3.size)⟩
                    · have Hr := Lib.hid (all_take_succ (p := ownOk ks.length) hlt Hall.out (by rw [hx]; exact hko))
                      have Hko : Hid ((decide (0 ≤ x) && decide (x ≤ (ks.length : Int) - 1)) = true) := Lib.hid hko
                      clear hx hko
                      go_wp2
                      (refine wp_region_ext 11 (by kernel_rfl) (by kernel_rfl) ?_; simp only [List.take_succ_cons, List.take_zero, List.drop_succ_cons, List.drop_zero]; (repeat (go_big_quiet_step (((go_at_call 23; refine Calls_ext_same (in_eq x 0 ((ks.length : Int) - 1) _ Hko _)))))); refine wpQuiet_nil ?_; rintro _ ⟨ex, rfl⟩; have hex := ex.below; have hexz := ex.size; (try simp at hexz); (try (have hy0 : w.heap.size < ex.to.heap.size := by omega)); (try (have hy1 : w.heap.size + 1 < ex.to.heap.size := by omega)); (try (have hy2 : w.heap.size + 2 < ex.to.heap.size := by omega)))
                      go_wp2
                      go_roundw
                      case rel => exact ⟨k + 1, by omega, by go_num, Hr.out, hb3.trans (ex.below.mono (by omega))⟩
                      case measure => simp [intOf]; omega
                  · have Hda := Lib.hid (all_of_take (p := ownOk ks.length) (by omega) Hall.out)
                    have Hr := Lib.hid (bookErr_0 (s := s) (wo := wo) Hbig.out Hp.out Hwo.out Hk0.out Hd0.out Hka.out Hda.out)
                    go_wp2
                    go_ret
                    rw [Hr.out]
                    exact ⟨rfl, hwr3⟩
      · have Hr := Lib.hid (bookErr_1 (s := s) (wo := wo) (ks := ks) (ds := ds) hbig (fun h => hwo h.2.1))
        have HI : Hid ((decide (1 ≤ wo) && decide (wo ≤ s)) = false) := Lib.hid (by simp; omega)
        clear hbig hwo
        go_enter Try.func62, Try.ntmps62
        go_wp2_with (first | (go_at_call 87; refine (refPrime_any _ _).mono ?_; rintro e w1 ⟨rfl, hb1⟩; obtain ⟨hc1, hf1, hz1⟩ := bcell hb1; (try simp at hz1); (try (have hy0 : w.heap.size < w1.heap.size := by omega)); (try (have hy1 : w.heap.size + 1 < w1.heap.size := by omega)); (try (have hy2 : w.heap.size + 2 < w1.heap.size := by omega))) | (go_at_call 23; refine (in_eq wo 1 s _ HI _).mono ?_; rintro e w1 ⟨rfl, rfl⟩))
        go_ret
        rw [Hr.out]
        exact ⟨rfl, by (repeat (first | exact Below.refl _ _ | refine Below.alloc ?_ (by first | omega | (simp; done) | (simp; omega)) _ | refine Below.drew ?_ | refine Below.setCell ?_ (by first | omega | (simp; done) | (simp; omega)) _ | refine Below.trans ?_ (Below.mono (by assumption) (by first | omega | (simp; done) | (simp; omega)))))⟩
end Go.Proofs.Ytmplgcefhpobgaa
