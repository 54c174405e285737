/- copies: tests of ranges, legs, routes; CheckPost -/
import Derived.Test.YtfclemnkcpadpaaKb
namespace Go.Proofs.Ytfclemnkcpadpaa
set_option linter.unusedVariables false
set_option linter.unusedSimpArgs false
set_option linter.unnecessarySimpa false
open Go.RowKit Go.Flow

theorem ret_b {a b : Bool} (h : a = b) : Ending.returned (.bool a) = .returned (.bool b) := by rw [h]
theorem ret_n {k : IntKind} {a b : Int} (h : a = b) : Ending.returned (.int k a) = .returned (.int k b) := by rw [h]

set_option maxHeartbeats 400000 in
theorem within_any (a b c : Int) (w : World) :
    Calls Try.prog 69 #[.int .i64 a, .int .i64 b, .int .i64 c] w fun e w' => e = .returned (.bool (decide (b ≤ a) && decide (a ≤ c))) ∧ w = w' := by
  by_cases h : b ≤ a
  · have h1 : decide (b ≤ a) = true := by simpa using h
    go_enter Try.func69, Try.ntmps69
    go_wp2
    go_ret
    exact ⟨by simp [h1], rfl⟩
  · have h1 : decide (b ≤ a) = false := by simpa using h
    go_enter Try.func69, Try.ntmps69
    go_wp2
    go_ret
    exact ⟨by simp [h1], rfl⟩

set_option maxHeartbeats 400000 in
theorem has_any (x y n : Int) (w : World) :
    Calls Try.prog 56 #[.agg #[.int .i64 x, .int .i64 y], .int .i64 n] w fun e w' => e = .returned (.bool (inR n (x, y))) ∧ Below w.heap.size w w' := by
  go_enter Try.func56, Try.ntmps56
  go_wp2_with (go_at_call 69; refine (within_any _ _ _ _).mono ?_; rintro e w1 ⟨rfl, rfl⟩)
  go_ret
  exact ⟨rfl, (Below.refl _ _).alloc (Nat.le_refl _) _⟩

set_option maxHeartbeats 400000 in
theorem upto_any (x y n : Int) (w : World) :
    Calls Try.prog 115 #[.agg #[.int .i64 x, .int .i64 y], .int .i64 n] w fun e w' => e = .returned (.bool (uptoB (x, y) n)) ∧ Below w.heap.size w w' := by
  cases h0 : decide (0 ≤ x)
  · go_enter Try.func115, Try.ntmps115
    go_wp2
    go_ret
    exact ⟨ret_b (by simp only [uptoB, h0, Bool.false_and]), (Below.refl _ _).alloc (Nat.le_refl _) _⟩
  cases h1 : decide (x ≤ y)
  · go_enter Try.func115, Try.ntmps115
    go_wp2
    go_ret
    exact ⟨ret_b (by simp only [uptoB, h0, h1, Bool.true_and, Bool.false_and]), (Below.refl _ _).alloc (Nat.le_refl _) _⟩
  · go_enter Try.func115, Try.ntmps115
    go_wp2
    go_ret
    exact ⟨ret_b (by simp only [uptoB, h0, h1, Bool.true_and]), (Below.refl _ _).alloc (Nat.le_refl _) _⟩

set_option maxHeartbeats 400000 in
theorem hours_any (x y : Int) (w : World) :
    Calls Try.prog 117 #[.agg #[.int .i64 x, .int .i64 y]] w fun e w' => e = .returned (.bool (uptoB (x, y) 30)) ∧ Below w.heap.size w w' := by
  go_enter Try.func117, Try.ntmps117
  go_wp2_with (go_at_call 115; refine (upto_any _ _ _ _).mono ?_; rintro e w1 ⟨rfl, hb1⟩; obtain ⟨hc1, hf1, hz1⟩ := bcell hb1; (try simp at hz1); (try (have hy0 : w.heap.size < w1.heap.size := by omega)); (try (have hy1 : w.heap.size + 1 < w1.heap.size := by omega)); (try (have hy2 : w.heap.size + 2 < w1.heap.size := by omega)))
  go_ret
  exact ⟨rfl, by (repeat (first | exact Below.refl _ _ | refine Below.alloc ?_ (by first | omega | (simp; done) | (simp; omega)) _ | refine Below.drew ?_ | refine Below.setCell ?_ (by first | omega | (simp; done) | (simp; omega)) _ | refine Below.trans ?_ (Below.mono (by assumption) (by first | omega | (simp; done) | (simp; omega)))))⟩

set_option maxHeartbeats 400000 in
theorem legFew_any (ar : Option Addr) (ca : Nat) (x y : Int) (n : Nat) (w : World) (hn : n ≤ 9223372036854775807) :
    Calls Try.prog 92 #[.agg #[.int .i64 x, .int .i64 y, .slice ar n ca]] w fun e w' => e = .returned (.bool (decide (n ≤ 2))) ∧ Below w.heap.size w w' := by
  have e : decide (n ≤ 2) = decide ((n : Int) ≤ 2) := decide_eq_decide.2 (by omega)
  rw [e]
  go_enter Try.func92, Try.ntmps92
  go_wp2
  go_ret
  exact ⟨rfl, (Below.refl _ _).alloc (Nat.le_refl _) _⟩

theorem bounded_len {α : Type} {l : List α} {n : Nat} (h : l.length ≤ n) (hn : n ≤ 1000) : l.length ≤ 9223372036854775807 := by omega

set_option maxHeartbeats 800000 in
theorem few_any (al : Option Addr) (ca : Nat) (r : Route) (w : World) (hr : LegsAt w al r.legs) (hn : r.legs.length ≤ 9223372036854775807) (hs : ∀ l ∈ r.legs, l.asl.length ≤ 9223372036854775807) :
    Calls Try.prog 58 #[.agg #[.slice al r.legs.length ca, .bool r.lossy]] w fun e w' => e = .returned (.bool (routeFew r)) ∧ Below w.heap.size w w' := by
  cases h0 : decide ((r.legs.length : Int) ≤ 3)
  · have h1 : decide (r.legs.length ≤ 3) = false := by rw [← h0]; exact decide_eq_decide.2 (by omega)
    go_enter Try.func58, Try.ntmps58
    go_wp2
    go_ret
    exact ⟨ret_b (by unfold routeFew; rw [h1, Bool.false_and]), (Below.refl _ _).alloc (Nat.le_refl _) _⟩
  · have h1 : decide (r.legs.length ≤ 3) = true := by rw [← h0]; exact decide_eq_decide.2 (by omega)
    have H1 := Lib.hid h1
    clear h1
    have b0 : Below w.heap.size w (w.alloc (.cells #[.slice al r.legs.length ca, .bool r.lossy] 108)) := (Below.refl _ _).alloc (Nat.le_refl _) _
    go_enter Try.func58, Try.ntmps58
    go_wp2_with (go_at_call 91; refine (all_leg al r.legs ca 92 #[] #[] (fun l => decide (l.asl.length ≤ 2)) _ hn (hr.below b0) (enters Try.func92 (by kernel_rfl) rfl) (fun x hx W _ ar c _ W' _ => legFew_any ar c _ _ _ W' (hs x hx))).mono ?_; rintro e w1 ⟨rfl, hb1⟩; obtain ⟨hc1, hf1, hz1⟩ := bcell hb1; (try simp at hz1); (try (have hy0 : w.heap.size < w1.heap.size := by omega)); (try (have hy1 : w.heap.size + 1 < w1.heap.size := by omega)); (try (have hy2 : w.heap.size + 2 < w1.heap.size := by omega)))
    go_ret
    exact ⟨ret_b (by unfold routeFew; rw [H1.out, Bool.true_and]), b0.trans (hb1.mono (by simp))⟩

set_option maxHeartbeats 800000 in
theorem legValid_any (ar : Option Addr) (ca : Nat) (l : Leg) (w : World) (hr : Recs2At w ar l.asl) (hn : l.asl.length ≤ 9223372036854775807) :
    Calls Try.prog 95 #[.agg #[.int .i64 l.lo, .int .i64 l.hi, .slice ar l.asl.length ca]] w fun e w' => e = .returned (.bool (legOk l)) ∧ Below w.heap.size w w' := by
  have b0 : Below w.heap.size w (w.alloc (.cells #[.int .i64 l.lo, .int .i64 l.hi, .slice ar l.asl.length ca] 105)) := (Below.refl _ _).alloc (Nat.le_refl _) _
  cases h0 : uptoB (l.lo, l.hi) 6
  · go_enter Try.func95, Try.ntmps95
    have hu := fun W => upto_any l.lo l.hi 6 W
    rw [h0] at hu
    go_wp2_with (go_at_call 115; refine (hu _).mono ?_; rintro e w1 ⟨rfl, hb1⟩; obtain ⟨hc1, hf1, hz1⟩ := bcell hb1; (try simp at hz1); (try (have hy0 : w.heap.size < w1.heap.size := by omega)); (try (have hy1 : w.heap.size + 1 < w1.heap.size := by omega)); (try (have hy2 : w.heap.size + 2 < w1.heap.size := by omega)))
    go_ret
    exact ⟨ret_b (by unfold legOk; rw [h0, Bool.false_and]), b0.trans (hb1.mono (by simp))⟩
  · go_enter Try.func95, Try.ntmps95
    have hu := fun W => upto_any l.lo l.hi 6 W
    rw [h0] at hu
    go_wp2_with (go_at_call 115; refine (hu _).mono ?_; rintro e w1 ⟨rfl, hb1⟩; obtain ⟨hc1, hf1, hz1⟩ := bcell hb1; (try simp at hz1); (try (have hy0 : w.heap.size < w1.heap.size := by omega)); (try (have hy1 : w.heap.size + 1 < w1.heap.size := by omega)); (try (have hy2 : w.heap.size + 2 < w1.heap.size := by omega)))
    have b1 : Below w.heap.size w w1 := b0.trans (hb1.mono (by simp))
    obtain ⟨w0, e0⟩ : ∃ x, x = w1 := ⟨_, rfl⟩
    subst e0
    go_wp2_with (go_at_call 116; refine (all_range ar l.asl ca 117 #[] #[] (fun r => uptoB r 30) _ hn (hr.below b1) (enters Try.func117 (by kernel_rfl) rfl) (fun x _ W _ => hours_any x.1 x.2 W)).mono ?_; rintro e w2 ⟨rfl, hb2⟩)
    go_ret
    exact ⟨ret_b (by unfold legOk; rw [h0, Bool.true_and]), b1.trans (hb2.mono b1.size)⟩

set_option maxHeartbeats 800000 in
theorem routeValid_any (al : Option Addr) (ca : Nat) (r : Route) (w : World) (hr : LegsAt w al r.legs) (hn : r.legs.length ≤ 9223372036854775807) (hs : ∀ l ∈ r.legs, l.asl.length ≤ 9223372036854775807) :
    Calls Try.prog 61 #[.agg #[.slice al r.legs.length ca, .bool r.lossy]] w fun e w' => e = .returned (.bool (routeOk r)) ∧ Below w.heap.size w w' := by
  cases h0 : decide (0 < (r.legs.length : Int))
  · have h1 : decide (0 < r.legs.length) = false := by rw [← h0]; exact decide_eq_decide.2 (by omega)
    go_enter Try.func61, Try.ntmps61
    go_wp2
    go_ret
    exact ⟨ret_b (by unfold routeOk; rw [h1, Bool.false_and]), (Below.refl _ _).alloc (Nat.le_refl _) _⟩
  · have h1 : decide (0 < r.legs.length) = true := by rw [← h0]; exact decide_eq_decide.2 (by omega)
    have p1 : 0 < r.legs.length := by simpa using h1
    have H1 := Lib.hid h1
    clear h1
    have b0 : Below w.heap.size w (w.alloc (.cells #[.slice al r.legs.length ca, .bool r.lossy] 108)) := (Below.refl _ _).alloc (Nat.le_refl _) _
    go_enter Try.func61, Try.ntmps61
    go_wp2_with (go_at_call 91; refine (all_leg al r.legs ca 95 #[] #[] legOk _ hn (hr.below b0) (enters Try.func95 (by kernel_rfl) rfl) (fun x hx W _ ar c hR W' hW' => legValid_any ar c x W' (hR.below hW') (hs x hx))).mono ?_; rintro e w1 ⟨rfl, hb1⟩; obtain ⟨hc1, hf1, hz1⟩ := bcell hb1; (try simp at hz1); (try (have hy0 : w.heap.size < w1.heap.size := by omega)); (try (have hy1 : w.heap.size + 1 < w1.heap.size := by omega)); (try (have hy2 : w.heap.size + 2 < w1.heap.size := by omega)))
    go_ret
    exact ⟨ret_b (by unfold routeOk; rw [H1.out, Bool.true_and]), b0.trans (hb1.mono (by simp))⟩

theorem rises_drop : ∀ (l : List Int) (k : Nat), k + 1 < l.length → risesB (l.drop k) = (decide (l.getD k 0 < l.getD (k + 1) 0) && risesB (l.drop (k + 1)))
  | l, k, h => by
    rw [List.drop_eq_getElem_cons (show k < l.length by omega), List.drop_eq_getElem_cons (show k + 1 < l.length by omega)]
    simp [risesB, show k < l.length by omega, h]
theorem rises_end (l : List Int) (k : Nat) (h : l.length ≤ k + 1) : risesB (l.drop k) = true := by
  have : (l.drop k).length ≤ 1 := by simp; omega
  match hd : l.drop k, this with
  | [], _ => rfl
  | [_], _ => rfl
  | _ :: _ :: _, h => simp at h
set_option maxHeartbeats 800000 in
theorem rises_any (a : Option Addr) (xs : List Int) (c : Nat) (w : World) (hl : xs.length ≤ 1000) (hx : IntsAt w a xs) :
    Calls Try.prog 60 #[.slice a xs.length c] w fun e w' => e = .returned (.bool (risesB xs)) ∧ Below w.heap.size w w' := by
  go_enter Try.func60, Try.ntmps60
  go_wp2
  go_loopw [3] (fun i wr => ∃ k : Nat, i = .int .i64 (k + 1 : Nat) ∧ k ≤ xs.length ∧ Below w.heap.size w wr ∧ risesB xs = risesB (xs.drop k)) (fun i _ => xs.length - (intOf i).toNat)
  case atStart => exact ⟨0, rfl, Nat.zero_le _, Below.refl _ _, rfl⟩
  case round =>
    obtain ⟨k, rfl, hk, hb, hi⟩ := hrel
    have Hi := Lib.hid hi
    clear hi
    by_cases hlt : k + 1 < xs.length
    · obtain ⟨b, off, rfl, hbl, c0⟩ := hx k (by omega)
      obtain ⟨b', off', e, _, c1⟩ := hx (k + 1) hlt
      obtain ⟨rfl, rfl⟩ : b = b' ∧ off = off' := by simpa using e
      have hd := rises_drop xs k hlt
      have c0' := (hb.cell (p := ⟨b, off + k, none⟩) hbl).trans c0
      have c1' := (hb.cell (p := ⟨b, off + (k + 1), none⟩) hbl).trans c1
      have hbr : b < wr.heap.size := Nat.lt_of_lt_of_le hbl hb.size
      clear c0 c1 e
      obtain ⟨x, hx0⟩ : ∃ x, xs.getD k 0 = x := ⟨_, rfl⟩
      obtain ⟨y, hy0⟩ : ∃ y, xs.getD (k + 1) 0 = y := ⟨_, rfl⟩
      rw [hx0, hy0] at hd
      rw [hx0] at c0'
      rw [hy0] at c1'
      have Hd := Lib.hid hd
      clear hx0 hy0 hd
      have s1 : IntKind.i64.wrap ((k + 1 : Nat) - 1 : Int) = k := IntWalk.i64_in _ (by omega) |>.trans (by omega)
      by_cases hyx : y ≤ x
      · have hlxy : decide (x < y) = false := by simpa using hyx
        have Hl := Lib.hid hlxy
        clear hlxy
        go_wp2
        (refine wp_region_ext 10 (by kernel_rfl) (by kernel_rfl) ?_; simp only [List.take_succ_cons, List.take_zero, List.drop_succ_cons, List.drop_zero]; (repeat (go_big_quiet_step ((fail)))); refine wpQuiet_nil ?_; rintro _ ⟨ex, rfl⟩; have hex := ex.below; have hexz := ex.size; (try simp at hexz); (try (have hy0 : w.heap.size < ex.to.heap.size := by omega)); (try (have hy1 : w.heap.size + 1 < ex.to.heap.size := by omega)); (try (have hy2 : w.heap.size + 2 < ex.to.heap.size := by omega)))
        go_wp2
        go_ret
        exact ⟨ret_b (by rw [Hi.out, Hd.out, Hl.out, Bool.false_and]), hb.trans (hex.mono hb.size)⟩
      · have hlxy : decide (x < y) = true := by simp; omega
        have Hl := Lib.hid hlxy
        clear hlxy
        go_wp2
        (refine wp_region_ext 10 (by kernel_rfl) (by kernel_rfl) ?_; simp only [List.take_succ_cons, List.take_zero, List.drop_succ_cons, List.drop_zero]; (repeat (go_big_quiet_step ((fail)))); refine wpQuiet_nil ?_; rintro _ ⟨ex, rfl⟩; have hex := ex.below; have hexz := ex.size; (try simp at hexz); (try (have hy0 : w.heap.size < ex.to.heap.size := by omega)); (try (have hy1 : w.heap.size + 1 < ex.to.heap.size := by omega)); (try (have hy2 : w.heap.size + 2 < ex.to.heap.size := by omega)))
        go_wp2
        go_roundw
        case rel => exact ⟨k + 1, by go_num, by omega, hb.trans (hex.mono hb.size), by rw [Hi.out, Hd.out, Hl.out, Bool.true_and]⟩
        case measure => simp [intOf]; omega
    · go_wp2
      go_ret
      exact ⟨ret_b (by rw [Hi.out, rises_end xs k (by omega)]), hb⟩

theorem all_meets {α : Type} {l : List α} {p q : α → Bool} (h : ∀ x, p x = q x) : l.all p = l.all q := by
  induction l with
  | nil => rfl
  | cons a l ih => simp [h, ih]
/-- The lists of a post are short enough to be counted. -/
structure PostSmall (p : Post) : Prop where
  s : p.sends.length ≤ 1000
  r : p.routes.length ≤ 1000
  l : ∀ r ∈ p.routes, r.legs.length ≤ 1000
  a : ∀ r ∈ p.routes, ∀ l ∈ r.legs, l.asl.length ≤ 1000

set_option maxHeartbeats 2000000 in
theorem checkPost_any (a : Option Addr) (c : Nat) (ar : Option Addr) (cr : Nat) (p : Post) (w : World) (hs : IntsAt w a p.sends) (hr : RoutesAt w ar p.routes) (sm : PostSmall p) :
    Calls Try.prog 20 #[.agg #[.slice a p.sends.length c, .slice ar p.routes.length cr, .int .i64 p.pat]] w fun e w' => e = .returned (.int .i64 (postErr p)) ∧ Below w.heap.size w w' := by
  have l0 := sm.s
  have l1 := sm.r
  have b0 : Below w.heap.size w (w.alloc (.cells #[.slice a p.sends.length c, .slice ar p.routes.length cr, .int .i64 p.pat] 34)) := (Below.refl _ _).alloc (Nat.le_refl _) _
  obtain ⟨W, hW⟩ : ∃ x, x = w.alloc (.cells #[.slice a p.sends.length c, .slice ar p.routes.length cr, .int .i64 p.pat] 34) := ⟨_, rfl⟩
  have few := fun W (b : Below w.heap.size w W) => all_route ar p.routes cr 58 #[] #[] routeFew W (by omega) (hr.below b) (enters Try.func58 (by kernel_rfl) rfl) (fun x hx W1 _ al ca hR W' hW' => few_any al ca x W' (hR.below hW') (bounded_len (sm.l x hx) (by omega)) (fun l hl => bounded_len (sm.a x hx l hl) (by omega)))
  have val := fun W (b : Below w.heap.size w W) => all_route ar p.routes cr 61 #[] #[] routeOk W (by omega) (hr.below b) (enters Try.func61 (by kernel_rfl) rfl) (fun x hx W1 _ al ca hR W' hW' => routeValid_any al ca x W' (hR.below hW') (bounded_len (sm.l x hx) (by omega)) (fun l hl => bounded_len (sm.a x hx l hl) (by omega)))
  have hrs := fun W (b : Below w.heap.size w W) => all_int a p.sends c 56 #[.agg #[.int .i64 0, .int .i64 30]] #[] (fun n => inR n (0, 30)) W (by omega) (hs.below b) (enters Try.func56 (by kernel_rfl) rfl) (fun x _ W' _ => has_any 0 30 x W')
  have ris := fun W (b : Below w.heap.size w W) => rises_any a p.sends c W (by omega) (hs.below b)
  clear hW W
  go_enter Try.func20, Try.ntmps20
  go_wp2_with (first
    | (go_at_call 57; (with_reducible refine (few _ (by (repeat (first | exact Below.refl _ _ | refine Below.alloc ?_ (by first | omega | (simp; done) | (simp; omega)) _ | refine Below.drew ?_ | refine Below.setCell ?_ (by first | omega | (simp; done) | (simp; omega)) _ | refine Below.trans ?_ (Below.mono (by assumption) (by first | omega | (simp; done) | (simp; omega))))))).mono ?_); rintro e w1 ⟨rfl, hb1⟩; obtain ⟨hc1, hf1, hz1⟩ := bcell hb1; (try simp at hz1); (try (have hy0 : w.heap.size < w1.heap.size := by omega)); (try (have hy1 : w.heap.size + 1 < w1.heap.size := by omega)); (try (have hy2 : w.heap.size + 2 < w1.heap.size := by omega)); cases hF1 : p.routes.all routeFew)
    | (go_at_call 57; (with_reducible refine (val _ (by (repeat (first | exact Below.refl _ _ | refine Below.alloc ?_ (by first | omega | (simp; done) | (simp; omega)) _ | refine Below.drew ?_ | refine Below.setCell ?_ (by first | omega | (simp; done) | (simp; omega)) _ | refine Below.trans ?_ (Below.mono (by assumption) (by first | omega | (simp; done) | (simp; omega))))))).mono ?_); rintro e w1 ⟨rfl, hb1⟩; obtain ⟨hc1, hf1, hz1⟩ := bcell hb1; (try simp at hz1); (try (have hy0 : w.heap.size < w1.heap.size := by omega)); (try (have hy1 : w.heap.size + 1 < w1.heap.size := by omega)); (try (have hy2 : w.heap.size + 2 < w1.heap.size := by omega)); cases hV1 : p.routes.all routeOk)
    | (go_at_call 56; (with_reducible refine (has_any 0 30 p.pat _).mono ?_); rintro e w1 ⟨rfl, hb1⟩; obtain ⟨hc1, hf1, hz1⟩ := bcell hb1; (try simp at hz1); (try (have hy0 : w.heap.size < w1.heap.size := by omega)); (try (have hy1 : w.heap.size + 1 < w1.heap.size := by omega)); (try (have hy2 : w.heap.size + 2 < w1.heap.size := by omega)); cases hP1 : inR p.pat (0, 30))
    | (go_at_call 59; (with_reducible refine (hrs _ (by (repeat (first | exact Below.refl _ _ | refine Below.alloc ?_ (by first | omega | (simp; done) | (simp; omega)) _ | refine Below.drew ?_ | refine Below.setCell ?_ (by first | omega | (simp; done) | (simp; omega)) _ | refine Below.trans ?_ (Below.mono (by assumption) (by first | omega | (simp; done) | (simp; omega))))))).mono ?_); rintro e w1 ⟨rfl, hb1⟩; obtain ⟨hc1, hf1, hz1⟩ := bcell hb1; (try simp at hz1); (try (have hy0 : w.heap.size < w1.heap.size := by omega)); (try (have hy1 : w.heap.size + 1 < w1.heap.size := by omega)); (try (have hy2 : w.heap.size + 2 < w1.heap.size := by omega)); cases hS1 : p.sends.all (fun n => inR n (0, 30)))
    | (go_at_call 60; (with_reducible refine (ris _ (by (repeat (first | exact Below.refl _ _ | refine Below.alloc ?_ (by first | omega | (simp; done) | (simp; omega)) _ | refine Below.drew ?_ | refine Below.setCell ?_ (by first | omega | (simp; done) | (simp; omega)) _ | refine Below.trans ?_ (Below.mono (by assumption) (by first | omega | (simp; done) | (simp; omega))))))).mono ?_); rintro e w1 ⟨rfl, hb1⟩; obtain ⟨hc1, hf1, hz1⟩ := bcell hb1; (try simp at hz1); (try (have hy0 : w.heap.size < w1.heap.size := by omega)); (try (have hy1 : w.heap.size + 1 < w1.heap.size := by omega)); (try (have hy2 : w.heap.size + 2 < w1.heap.size := by omega)); cases hR1 : risesB p.sends))
  all_goals go_ret
  all_goals (refine ⟨?_, by (repeat (first | exact Below.refl _ _ | refine Below.alloc ?_ (by first | omega | (simp; done) | (simp; omega)) _ | refine Below.drew ?_ | refine Below.setCell ?_ (by first | omega | (simp; done) | (simp; omega)) _ | refine Below.trans ?_ (Below.mono (by assumption) (by first | omega | (simp; done) | (simp; omega)))))⟩)
  all_goals (first | (simp [postErr, *]; done) | (simp [postErr, *]; omega) | (exfalso; clear hs hr; simp_all; done) | go_ways)
end Go.Proofs.Ytfclemnkcpadpaa
