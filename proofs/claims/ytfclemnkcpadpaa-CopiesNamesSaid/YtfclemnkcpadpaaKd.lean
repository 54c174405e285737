/- copies: smallest, Leg.awake, deadline, comes, receive -/
import Derived.Test.YtfclemnkcpadpaaKc
import Derived.Test.YtfclemnkcpadpaaCel
namespace Go.Proofs.Ytfclemnkcpadpaa
set_option linter.unusedVariables false
set_option linter.unusedSimpArgs false
set_option linter.unnecessarySimpa false
open Go.RowKit Go.Flow

theorem cell_ltK {w : World} {b o : Nat} {v : Value} (h : w.cell? ⟨b, o, none⟩ = some v) : b < w.heap.size := by
  rcases Nat.lt_or_ge b w.heap.size with hl | hl
  · exact hl
  · simp [World.cell?, Array.getElem?_eq_none hl] at h
theorem ints2 (w : World) (x y : Int) (T : TypeId) : IntsAt (w.alloc (.cells #[.int .i64 x, .int .i64 y] T)) (some ⟨w.heap.size, 0, none⟩) [x, y] := fun k hk => by
  refine ⟨w.heap.size, 0, rfl, by simp, ?_⟩
  rw [World.cell?_alloc_at _ _ _ _ rfl]
  match k, hk with
  | 0, _ => rfl
  | 1, _ => rfl

def minF (m : Int) (l : List Int) : Int := l.foldl min m
set_option maxHeartbeats 800000 in
theorem min_any (a : Option Addr) (x : Int) (xs : List Int) (c : Nat) (w : World) (hl : xs.length ≤ 1000) (hx : IntsAt w a (x :: xs)) :
    Calls Try.prog 118 #[.slice a (x :: xs).length c] w fun e w' => e = .returned (.int .i64 (minF x xs)) ∧ w = w' := by
  obtain ⟨b0, o0, ha0, hb0, c0⟩ := hx 0 (by simp)
  subst ha0
  have c0' : w.cell? ⟨b0, o0, none⟩ = some (.int .i64 x) := by simpa using c0
  clear c0
  have hne : decide (((x :: xs).length : Int) < 1) = false := by simp; omega
  have hpos : 0 < (x :: xs).length := by simp
  obtain ⟨n, hn⟩ : ∃ n, (x :: xs).length = n := ⟨_, rfl⟩
  have hn1 : n = xs.length + 1 := by rw [← hn]; simp
  rw [hn] at hne hpos ⊢
  have Hn := Lib.hid hn1
  have hn2 : n ≤ 1001 := by omega
  clear hn1
  have Hn' := Lib.hid hn
  clear hn
  go_enter Try.func118, Try.ntmps118
  go_wp2
  go_loop [3, 4] (fun m i => ∃ k : Nat, k + 1 ≤ n ∧ i = .int .i64 (k + 1 : Nat) ∧ m = .int .i64 (minF x (xs.take k))) (fun _ i => n - (intOf i).toNat)
  case atStart => exact ⟨0, by omega, rfl, rfl⟩
  case round =>
    obtain ⟨k, hk, rfl, rfl⟩ := hrel
    by_cases hlt : k + 1 < n
    · obtain ⟨b', o', e, _, c1⟩ := hx (k + 1) (by rw [Hn'.out]; exact hlt)
      obtain ⟨rfl, rfl⟩ : b0 = b' ∧ o0 = o' := by simpa using e
      have hkx : k < xs.length := by have := Hn.out; omega
      have c1' : w.cell? ⟨b0, o0 + (k + 1), none⟩ = some (.int .i64 xs[k]) := by rw [c1]; simp [hkx]
      clear c1 e
      have hs : minF x (xs.take (k + 1)) = min (minF x (xs.take k)) xs[k] := by
        unfold minF
        rw [List.take_succ_eq_append_getElem hkx, List.foldl_append]
        rfl
      have Hs := Lib.hid hs
      clear hs
      obtain ⟨y, hy⟩ : ∃ y, xs[k] = y := ⟨_, rfl⟩
      rw [hy] at c1' Hs
      have Hy := Lib.hid hy
      clear hy
      obtain ⟨m, hm⟩ : ∃ m, minF x (xs.take k) = m := ⟨_, rfl⟩
      rw [hm] at Hs ⊢
      clear hm
      go_wp2
      go_round
      case rel => exact ⟨k + 1, by omega, by go_num, by rw [Hs.out]; congr 1; split <;> omega⟩
      case measure => simp [intOf]; omega
    · obtain rfl : n = k + 1 := by omega
      go_wp2
      go_ret
      have : k = xs.length := by have := Hn.out; omega
      exact ⟨ret_n (by rw [this, List.take_length]), rfl⟩
set_option maxHeartbeats 800000 in
theorem smallest_any (a : Option Addr) (x y : Int) (c : Nat) (w : World) (hx : IntsAt w a [x, y]) :
    Calls Try.prog 96 #[.slice a 2 c] w fun e w' => e = .returned (.int .i64 (min x y)) ∧ w = w' := by
  have h : Calls Try.prog 118 #[.slice a 2 c] w fun e w' => e = .returned (.int .i64 (min x y)) ∧ w = w' := min_any a x [y] c w (by simp) hx
  go_enter Try.func96, Try.ntmps96
  go_wp2_with (go_at_call 118; (with_reducible refine h.mono ?_); rintro e w1 ⟨rfl, rfl⟩)
  go_ret
  exact ⟨rfl, rfl⟩

set_option maxHeartbeats 400000 in
theorem asleep_meets (h : Int) (B : Nat) (w : World) (hc : w.cell? ⟨B, 0, none⟩ = some (.int .i64 h)) (x : Int × Int) : Meets Try.prog w 121 #[] #[.pointer (some ⟨B, 0, none⟩)] (.agg #[.int .i64 x.1, .int .i64 x.2]) (inR h x) := by
  intro w' hb'
  have hB := cell_ltK hc
  have hc' : w'.cell? ⟨B, 0, none⟩ = some (.int .i64 h) := (hb'.cell (p := ⟨B, 0, none⟩) hB).trans hc
  have hBw : B < w'.heap.size := Nat.lt_of_lt_of_le hB hb'.size
  clear hc
  show Calls Try.prog 121 #[.agg #[.int .i64 x.1, .int .i64 x.2], .pointer (some ⟨B, 0, none⟩)] w' _
  go_enter Try.func121, Try.ntmps121
  go_wp2_with (go_at_call 56; refine (has_any _ _ _ _).mono ?_; rintro e w1 ⟨rfl, hb1⟩; obtain ⟨hc1, hf1, hz1⟩ := bcell hb1; (try simp at hz1); (try (have hy0 : w.heap.size < w1.heap.size := by omega)); (try (have hy1 : w.heap.size + 1 < w1.heap.size := by omega)); (try (have hy2 : w.heap.size + 2 < w1.heap.size := by omega)))
  go_ret
  exact ⟨rfl, by (repeat (first | exact Below.refl _ _ | refine Below.alloc ?_ (by first | omega | (simp; done) | (simp; omega)) _ | refine Below.drew ?_ | refine Below.setCell ?_ (by first | omega | (simp; done) | (simp; omega)) _ | refine Below.trans ?_ (Below.mono (by assumption) (by first | omega | (simp; done) | (simp; omega)))))⟩
set_option maxHeartbeats 1000000 in
theorem awake_leg (ar : Option Addr) (ca : Nat) (l : Leg) (h : Int) (w : World) (hr : Recs2At w ar l.asl) (hn : l.asl.length ≤ 1000) (ha : l.asl.all (fun r => uptoB r 30) = true) (h0 : 0 ≤ h) (h1 : h ≤ 1000) :
    Calls Try.prog 101 #[.agg #[.int .i64 l.lo, .int .i64 l.hi, .slice ar l.asl.length ca], .int .i64 h] w fun e w' => e = .returned (.int .i64 (awk l h)) ∧ Below w.heap.size w w' := by
  have Ha := Lib.hid ha
  clear ha
  go_enter Try.func101, Try.ntmps101
  go_wp2
  obtain ⟨lo, hlo⟩ : ∃ x, x = l.lo := ⟨_, rfl⟩
  obtain ⟨hi, hhi⟩ : ∃ x, x = l.hi := ⟨_, rfl⟩
  rw [← hlo, ← hhi]
  clear hlo hhi
  go_loopg [] (31 - h).toNat (fun k wr => ∃ g : Int, h ≤ g ∧ g ≤ 1000 ∧ awk l h = awk l g ∧ (31 - g).toNat ≤ k ∧ Below w.heap.size w wr ∧ wr.cell? ⟨w.heap.size, 2, none⟩ = some (.slice ar l.asl.length ca) ∧ wr.cell? ⟨w.heap.size + 1, 0, none⟩ = some (.int .i64 g) ∧ wr.frozen? ⟨w.heap.size + 1, 0, none⟩ = false)
  case atStart => 
    refine ⟨h, by omega, h1, rfl, Nat.le_refl _, by (repeat (first | exact Below.refl _ _ | refine Below.alloc ?_ (by first | omega | (simp; done) | (simp; omega)) _ | refine Below.drew ?_ | refine Below.setCell ?_ (by first | omega | (simp; done) | (simp; omega)) _ | refine Below.trans ?_ (Below.mono (by assumption) (by first | omega | (simp; done) | (simp; omega))))), ?_, ?_, ?_⟩ <;> go_simp
  case round =>
    obtain ⟨g, hg0, hg1, hag, hgk, hb, c2, cg, fg⟩ := hrel
    have Hag := Lib.hid hag
    clear hag
    have lg := cell_ltK cg
    have lw : w.heap.size < wr.heap.size := by omega
    have hR := hr.below hb
    have hcf : Calls Try.prog 120 #[.slice ar l.asl.length ca, .func (.func 121) #[] #[.pointer (some ⟨w.heap.size + 1, 0, none⟩)]] wr fun e w' => e = .returned (.bool (asleepB l g)) ∧ Below wr.heap.size wr w' :=
      containsFunc_range ar l.asl ca 121 #[] #[.pointer (some ⟨w.heap.size + 1, 0, none⟩)] (inR g) wr (by omega) hR (enters Try.func121 (by kernel_rfl) rfl) (fun x _ => asleep_meets g (w.heap.size + 1) wr cg x)
    cases hA : asleepB l g
    · rw [hA] at hcf
      have Hup := Lib.hid (awk_up hA)
      clear hA
      go_wp2_with (go_at_call 120; (with_reducible refine hcf.mono ?_); rintro e w1 ⟨rfl, hb1⟩; obtain ⟨hc1, hf1, hz1⟩ := bcell hb1)
      go_ret
      exact ⟨ret_n (by rw [Hag.out, Hup.out]), hb.trans (hb1.mono hb.size)⟩
    · rw [hA] at hcf
      have hle := asleep_le Ha.out hA
      have Hsl := Lib.hid (awk_sleep Ha.out hA)
      clear hA
      go_wp2_with (go_at_call 120; (with_reducible refine hcf.mono ?_); rintro e w1 ⟨rfl, hb1⟩; obtain ⟨hc1, hf1, hz1⟩ := bcell hb1)
      go_roundg (30 - g).toNat
      case measure => omega
      case rel =>
        have b1 := hb.trans (hb1.mono hb.size)
        refine ⟨g + 1, by omega, by omega, by rw [Hag.out, Hsl.out], by omega, b1.setCell (by simp) _, ?_, ?_, ?_⟩ <;> go_simp

/-- Sends and patience of a valid post. -/
structure PostHours (p : Post) : Prop where
  s : ∀ n ∈ p.sends, 0 ≤ n ∧ n ≤ 30
  p : 0 ≤ p.pat ∧ p.pat ≤ 30
def PostAtV (w : World) (a : Option Addr) (c : Nat) (ar : Option Addr) (cr : Nat) (p : Post) (v : Value) : Prop := v = postVal a c ar cr p ∧ IntsAt w a p.sends ∧ RoutesAt w ar p.routes
set_option maxHeartbeats 1000000 in
theorem deadline_any (a : Option Addr) (c : Nat) (ar : Option Addr) (n cr : Nat) (sends : List Int) (pat : Int) (k : Nat) (w : World) (hs : IntsAt w a sends) (hk : k < sends.length) (ls : sends.length ≤ 1000) (b0 : 0 ≤ sends[k] ∧ sends[k] ≤ 1000) (b1 : 0 ≤ pat ∧ pat ≤ 1000) :
    Calls Try.prog 76 #[.agg #[.slice a sends.length c, .slice ar n cr, .int .i64 pat], .int .i64 k] w fun e w' => e = .returned (.int .i64 (sends[k] + pat)) ∧ Below w.heap.size w w' := by
  obtain ⟨b, off, rfl, hbl, hc⟩ := hs k hk
  have hc' : w.cell? ⟨b, off + k, none⟩ = some (.int .i64 sends[k]) := by rw [hc]; simp [hk]
  have hkI : (k : Int) < (sends.length : Int) := by omega
  have hbw : b < w.heap.size + 1 := by omega
  have hs1 : IntKind.i64.wrap (sends[k] + pat) = sends[k] + pat := IntWalk.i64_in _ (by omega)
  clear hc
  go_enter Try.func76, Try.ntmps76
  go_wp2
  (refine wp_region_ext 8 (by kernel_rfl) (by kernel_rfl) ?_; simp only [List.take_succ_cons, List.take_zero, List.drop_succ_cons, List.drop_zero]; (repeat (go_big_quiet_step ((fail)))); refine wpQuiet_nil ?_; rintro _ ⟨ex, rfl⟩; have hex := ex.below; have hexz := ex.size; (try simp at hexz); (try (have hy0 : w.heap.size < ex.to.heap.size := by omega)); (try (have hy1 : w.heap.size + 1 < ex.to.heap.size := by omega)); (try (have hy2 : w.heap.size + 2 < ex.to.heap.size := by omega)))
  go_wp2
  go_ret
  exact ⟨rfl, by (repeat (first | exact Below.refl _ _ | refine Below.alloc ?_ (by first | omega | (simp; done) | (simp; omega)) _ | refine Below.drew ?_ | refine Below.setCell ?_ (by first | omega | (simp; done) | (simp; omega)) _ | refine Below.trans ?_ (Below.mono (by assumption) (by first | omega | (simp; done) | (simp; omega)))))⟩

/-- Where a copy is at the end of its legs. -/
def comesF : List Leg → List Int → Int → Int
  | l :: ls, t :: ts, s => comesF ls ts (awk l (s + t))
  | _, _, s => s
theorem comesF_le : ∀ (ls : List Leg) (ts : List Int) (s : Int), 0 ≤ s → (∀ t ∈ ts, 0 ≤ t) → s ≤ comesF ls ts s
  | [], _, s, _, _ => by simp [comesF]
  | _ :: _, [], s, _, _ => by simp [comesF]
  | l :: ls, t :: ts, s, h, ht => by
    have := awk_bd l (s + t)
    have h1 := ht t (by simp)
    have := comesF_le ls ts (awk l (s + t)) (by omega) (fun x hx => ht x (by simp [hx]))
    simp only [comesF]; omega
theorem comesF_step (ls : List Leg) (ts : List Int) (s : Int) (k : Nat) (h1 : k < ls.length) (h2 : k < ts.length) : comesF (ls.drop k) (ts.drop k) s = comesF (ls.drop (k + 1)) (ts.drop (k + 1)) (awk ls[k] (s + ts[k])) := by
  rw [List.drop_eq_getElem_cons h1, List.drop_eq_getElem_cons h2]; rfl
/-- The hour of a copy; 101 where it is lost. -/
def comeR (r : Route) (s : Int) (ts : List Int) : Int := if ts = [] then 101 else comesF r.legs ts s

set_option maxHeartbeats 1500000 in
theorem comes_any (al : Option Addr) (ca : Nat) (r : Route) (s : Int) (at_ : Option Addr) (ts : List Int) (ct : Nat) (w : World) (hr : LegsAt w al r.legs) (ht : IntsAt w at_ ts) (hlen : ts ≠ [] → ts.length = r.legs.length) (ln : r.legs.length ≤ 3) (hok : r.legs.all legOk = true) (sm : ∀ l ∈ r.legs, l.asl.length ≤ 1000) (s0 : 0 ≤ s) (s1 : s ≤ 100) (tb : ∀ t ∈ ts, 0 ≤ t ∧ t ≤ 100) :
    Calls Try.prog 97 #[.agg #[.slice al r.legs.length ca, .bool r.lossy], .int .i64 s, .slice at_ ts.length ct] w fun e w' => e = .returned (.int .i64 (comeR r s ts)) ∧ Below w.heap.size w w' := by
  by_cases hz : ts = []
  · subst hz
    go_enter Try.func97, Try.ntmps97
    go_wp2
    go_ret
    exact ⟨rfl, by (repeat (first | exact Below.refl _ _ | refine Below.alloc ?_ (by first | omega | (simp; done) | (simp; omega)) _ | refine Below.drew ?_ | refine Below.setCell ?_ (by first | omega | (simp; done) | (simp; omega)) _ | refine Below.trans ?_ (Below.mono (by assumption) (by first | omega | (simp; done) | (simp; omega)))))⟩
  have hlt := hlen hz
  have hpos : 0 < ts.length := List.length_pos_iff.2 hz
  have Hc : Hid (comeR r s ts = comesF r.legs ts s) := by unfold comeR; rw [if_neg hz]; exact Lib.hid rfl
  have hne : ((ts.length : Int) == 0) = false := by simp; omega
  have Hok := Lib.hid hok
  clear hz hok hlen
  have hll : r.legs.length ≤ 3 := ln
  have Hlt := Lib.hid hlt
  clear hlt
  have hlt2 : ts.length ≤ r.legs.length ∧ r.legs.length ≤ ts.length := by have := Hlt.out; omega
  go_enter Try.func97, Try.ntmps97
  go_wp2
  go_loopw [1, 15] (fun x i wr => ∃ (k : Nat) (g : Int), k ≤ r.legs.length ∧ i = .int .i64 k ∧ x = .int .i64 g ∧ 0 ≤ g ∧ g ≤ 131 + 100 * k ∧ comesF r.legs ts s = comesF (r.legs.drop k) (ts.drop k) g ∧ Below w.heap.size w wr) (fun _ i _ => r.legs.length - (intOf i).toNat)
  case atStart => exact ⟨0, s, Nat.zero_le _, rfl, rfl, s0, by omega, rfl, by (repeat (first | exact Below.refl _ _ | refine Below.alloc ?_ (by first | omega | (simp; done) | (simp; omega)) _ | refine Below.drew ?_ | refine Below.setCell ?_ (by first | omega | (simp; done) | (simp; omega)) _ | refine Below.trans ?_ (Below.mono (by assumption) (by first | omega | (simp; done) | (simp; omega)))))⟩
  case round =>
    obtain ⟨k, g, hk, rfl, rfl, g0, g1, hcf, hb⟩ := hrel
    have Hcf := Lib.hid hcf
    clear hcf
    by_cases hkl : k < r.legs.length
    · obtain ⟨b, off, ar, ca2, rfl, hbl, c0, c1, c2, hR⟩ := hr k hkl
      obtain ⟨b', off', rfl, hbl', ct0⟩ := ht k (by omega)
      have Hst := Lib.hid (comesF_step r.legs ts g k hkl (by omega))
      have hlk : legOk r.legs[k] = true := List.all_eq_true.1 Hok.out _ (List.getElem_mem hkl)
      have hta := tb ts[k] (List.getElem_mem (by omega))
      have hsm := sm r.legs[k] (List.getElem_mem hkl)
      have ct0' : wr.cell? ⟨b', off' + k, none⟩ = some (.int .i64 ts[k]) := ((hb.cell (p := ⟨b', _, none⟩) hbl').trans ct0).trans (by simp [show k < ts.length by omega])
      have c0' := (hb.cell (p := ⟨b, _, none⟩) hbl).trans c0
      have c1' := (hb.cell (p := ⟨b, _, none⟩) hbl).trans c1
      have c2' := (hb.cell (p := ⟨b, _, none⟩) hbl).trans c2
      have hbr : b < wr.heap.size := Nat.lt_of_lt_of_le hbl hb.size
      have hbr' : b' < wr.heap.size := Nat.lt_of_lt_of_le hbl' hb.size
      have hRw := hR.below hb
      clear ct0 c0 c1 c2 hR
      obtain ⟨l, hl⟩ : ∃ l, r.legs[k] = l := ⟨_, rfl⟩
      obtain ⟨t, htk⟩ : ∃ t, ts[k] = t := ⟨_, rfl⟩
      rw [hl] at Hst hlk hsm c0' c1' c2' hRw
      rw [htk] at Hst hta ct0'
      clear hl htk
      have has : l.asl.all (fun r => uptoB r 30) = true := by simp only [legOk, Bool.and_eq_true] at hlk; exact hlk.2
      have hab := awk_bd l (g + t)
      have Has := Lib.hid has
      clear hlk has
      have hw1 : IntKind.i64.wrap (g + t) = g + t := IntWalk.i64_in _ (by omega)
      have hkI : (k : Int) < (ts.length : Int) := by omega
      have haw : ∀ W, Below wr.heap.size wr W → Calls Try.prog 101 #[.agg #[.int .i64 l.lo, .int .i64 l.hi, .slice ar l.asl.length ca2], .int .i64 (g + t)] W fun e w' => e = .returned (.int .i64 (awk l (g + t))) ∧ Below W.heap.size W w' :=
        fun W b => awake_leg ar ca2 l (g + t) W (hRw.below b) hsm Has.out (by omega) (by omega)
      obtain ⟨q, hq⟩ : ∃ q, awk l (g + t) = q := ⟨_, rfl⟩
      rw [hq] at Hst haw hab
      clear hq hRw hsm
      have hw1 : ∀ o, Below wr.heap.size wr (wr.alloc o) := fun o => (Below.refl _ _).alloc (Nat.le_refl _) _
      go_wp2
      (refine wp_region_ext 8 (by kernel_rfl) (by kernel_rfl) ?_; simp only [List.take_succ_cons, List.take_zero, List.drop_succ_cons, List.drop_zero]; (repeat (go_big_quiet_step (((go_at_call 101; refine Calls_ext (haw _ ((hw1 _).trans (Below.mono (Ext.below _) (hw1 _).size)))))))); refine wpQuiet_nil ?_; rintro _ ⟨ex, rfl⟩; have hex := ex.below; have hexz := ex.size; (try simp at hexz); (try (have hy0 : w.heap.size < ex.to.heap.size := by omega)); (try (have hy1 : w.heap.size + 1 < ex.to.heap.size := by omega)); (try (have hy2 : w.heap.size + 2 < ex.to.heap.size := by omega)))
      go_wp2
      go_roundw
      case rel => exact ⟨k + 1, q, by omega, by go_num, rfl, by omega, by omega, by rw [Hcf.out, Hst.out], hb.trans ((hw1 _).trans (hex.mono (hw1 _).size) |>.mono hb.size)⟩
      case measure => simp [intOf]; omega
    · obtain rfl : k = r.legs.length := by omega
      go_wp2
      go_ret
      exact ⟨ret_n (by rw [Hc.out, Hcf.out, List.drop_eq_nil_of_le (Nat.le_refl _)]; simp [comesF]), hb⟩

/-- What becomes of a dispatch. -/
def recvF (p : Post) (n : Nat) (before hour : Int) : Ent := ⟨n, max before (min hour (p.sends.getD n 0 + p.pat)), decide (p.sends.getD n 0 + p.pat < hour)⟩
theorem ent_set {w : World} {b : Nat} {T : TypeId} {u0 u1 u2 : Value} (h : Cells w b #[u0, u1, u2] T) (v0 v1 v2 : Value) (o : Obj) : Cells ((((w.setCell ⟨b, 0, none⟩ v0).setCell ⟨b, 1, none⟩ v1).setCell ⟨b, 2, none⟩ v2).alloc o) b #[v0, v1, v2] T := by
  have := (((h.set 0 v0).set 1 v1).set 2 v2).alloc o
  simpa using this
theorem ent_below {w w1 : World} {b : Nat} {B : Nat} (h : Below B w w1) (hb : B ≤ b) (hB : B ≤ w1.heap.size) (v0 v1 v2 : Value) (o : Obj) : Below B w ((((w1.setCell ⟨b, 0, none⟩ v0).setCell ⟨b, 1, none⟩ v1).setCell ⟨b, 2, none⟩ v2).alloc o) :=
  (((h.setCell (p := ⟨b, 0, none⟩) hb _).setCell (p := ⟨b, 1, none⟩) hb _).setCell (p := ⟨b, 2, none⟩) hb _).alloc (by simpa using hB) _
theorem load_ent {w : World} {b : Nat} {v0 v1 v2 : Value} (h : Cells w b #[v0, v1, v2] 82) :
    (loadVar 82 ⟨b, 0, none⟩).run Try.prog w = .ok (.agg #[v0, v1, v2]) w := by
  have hi := Try.isAgg82
  have hs := Try.sizeOf82
  have k0 := h.cell 0
  have k1 := h.cell 1
  have k2 := h.cell 2
  simp at k0 k1 k2
  unfold loadVar
  go_simp
set_option maxHeartbeats 1500000 in
theorem receive_any (a : Option Addr) (c : Nat) (ar : Option Addr) (cr : Nat) (p : Post) (k : Nat) (before hour : Int) (w : World) (hs : IntsAt w a p.sends) (hk : k < p.sends.length) (ls : p.sends.length ≤ 1000) (b0 : 0 ≤ p.sends[k] ∧ p.sends[k] ≤ 1000) (b1 : 0 ≤ p.pat ∧ p.pat ≤ 1000) :
    Calls Try.prog 98 #[.agg #[.slice a p.sends.length c, .slice ar p.routes.length cr, .int .i64 p.pat], .int .i64 k, .int .i64 before, .int .i64 hour] w fun e w' => e = .returned (.agg #[.int .i64 k, .int .i64 (recvF p k before hour).at_, .bool (recvF p k before hour).skip]) ∧ Below w.heap.size w w' := by
  have hdl : ∀ W, Below w.heap.size w W → Calls Try.prog 76 #[.agg #[.slice a p.sends.length c, .slice ar p.routes.length cr, .int .i64 p.pat], .int .i64 k] W fun e w' => e = .returned (.int .i64 (p.sends[k] + p.pat)) ∧ Below W.heap.size W w' :=
    fun W b => deadline_any a c ar p.routes.length cr p.sends p.pat k W (hs.below b) hk ls b0 b1
  have Hat : Hid ((recvF p k before hour).at_ = max before (min hour (p.sends[k] + p.pat))) := Lib.hid (by simp [recvF, hk])
  have Hsk : Hid ((recvF p k before hour).skip = decide (p.sends[k] + p.pat < hour)) := Lib.hid (by simp [recvF, hk])
  obtain ⟨d, hd⟩ : ∃ d, p.sends[k] + p.pat = d := ⟨_, rfl⟩
  rw [hd] at hdl Hat Hsk
  obtain ⟨x, hx⟩ : ∃ x, (recvF p k before hour).at_ = x := ⟨_, rfl⟩
  obtain ⟨y, hy⟩ : ∃ y, (recvF p k before hour).skip = y := ⟨_, rfl⟩
  rw [hx] at Hat ⊢
  rw [hy] at Hsk ⊢
  clear hx hy hd
  have hw0 : ∀ o o', Below w.heap.size w ((w.alloc o).alloc o') := fun o o' => ((Below.refl _ _).alloc (Nat.le_refl _) _).alloc (by simp) _
  have C0 : Cells ((w.alloc (.cells #[.slice a p.sends.length c, .slice ar p.routes.length cr, .int .i64 p.pat] 34)).alloc (.cells #[.int .i64 0, .int .i64 0, .bool false] 82)) (w.heap.size + 1) #[.int .i64 0, .int .i64 0, .bool false] 82 := Cells.new' _ _ _ _ (by simp)
  have s0 : ∀ {A B : Int}, A ≤ B → max A B = B := fun h => by omega
  by_cases hm : min hour d < before
  all_goals
    go_enter Try.func98, Try.ntmps98
    go_wp2_with (go_at_call 76; (with_reducible refine (hdl _ (hw0 _ _)).mono ?_); rintro e w1 ⟨rfl, hb1⟩)
    have C1 := C0.below hb1
    have hB : Below w.heap.size w w1 := (hw0 _ _).trans (hb1.mono (hw0 _ _).size)
    clear C0 hb1
    have e0 := C1.cell 0
    have e1 := C1.cell 1
    have e2 := C1.cell 2
    have f0 := C1.frozen 0
    have f1 := C1.frozen 1
    have f2 := C1.frozen 2
    have lB := C1.lt
    simp at e0 e1 e2
    go_wp2_with (go_at_call 96; (with_reducible refine (smallest_any _ hour d 2 _ (ints2 w1 hour d _)).mono ?_); rintro e w2 ⟨rfl, rfl⟩)
    all_goals
      refine bodyPost_ret (results_cell1 rfl rfl (load_ent (ent_set C1 _ _ _ _))) rfl ⟨?_, ent_below hB (by omega) hB.size _ _ _ _⟩
      rw [Hat.out, Hsk.out]
      first
        | rw [show max before (min hour d) = before by omega]
        | rw [show max before (min hour d) = min hour d by omega]
end Go.Proofs.Ytfclemnkcpadpaa
